/- Part 40: numbers as texts: plain. -/
import Derived.Test.YtjlmofhokbnloaaDoorSeArith
import Derived.Lib.Bytealg
import Derived.Test.YtjlmofhokbnloaaDoorSeRefM
import Derived.Laws.RangeAny
import Derived.Test.YtjlmofhokbnloaaDoorSeFrz
namespace Go.Se
def digA : Nat → Int → Int → Int → List Int → List Int
  | 0, _, _, _, l => l
  | f + 1, u, least, j, l => bif decide (u > 0) || decide (j < least) then digA f (u / 10) least (j + 1) ((48 + u % 10) :: l) else l
/-- A number's digits, so many at least. -/
def digL10 (u least : Int) : List Int := digA 20 u least 0 []
theorem bytes_append (a b : List Int) : bytesOf a ++ bytesOf b = bytesOf (a ++ b) := by
  unfold bytesOf
  apply ByteArray.ext
  simp
theorem bytes_size (a : List Int) : (bytesOf a).size = a.length := by simp [bytesOf, ByteArray.size]
def cDigits : List SV → List (Option SB) → Option (Bool × SV × List (Option SB) × List Nat)
  | [.int .u64 u, .int .i64 least], [] => some (decide (least ≤ 20), .str (bytesOf (digL10 u least)), [], [])
  | _, _ => none
def cDigitsR : List SV → List (Option SB) → Out
  | [.int .u64 u], [] => some (.str (bytesOf (digL10 u 1)), [], [])
  | _, _ => none
end Go.Se
namespace Go.Se
theorem ba_beq (a b : ByteArray) : (a == b) = (a.data == b.data) := rfl
theorem digA_succ (f : Nat) (u least j : Int) (l : List Int) : digA (f + 1) u least j l = bif decide (u > 0) || decide (j < least) then digA f (u / 10) least (j + 1) ((48 + u % 10) :: l) else l := rfl
theorem bytes_nil (l : List Int) : (bytesOf l == ⟨#[]⟩) = decide (l.length < 1) := by
  rw [Bool.eq_iff_iff, ba_beq, beq_iff_eq, decide_eq_true_eq]
  constructor
  · intro h
    have h : bytesOf l = ⟨#[]⟩ := ByteArray.ext h
    have := congrArg ByteArray.size h
    rw [bytes_size] at this
    simp [ByteArray.size] at this
    simp [this]
  · intro h
    have : l = [] := by cases l with
      | nil => rfl
      | cons a l => simp at h
    subst this; rfl
theorem digA_length : ∀ (f : Nat) (u least j : Int) (l : List Int), (digA f u least j l).length ≤ l.length + f
  | 0, _, _, _, l => by simp [digA]
  | f + 1, u, least, j, l => by
    unfold digA
    cases decide (u > 0) || decide (j < least)
    · simp only [cond_false]; omega
    · simp only [cond_true]
      have := digA_length f (u / 10) least (j + 1) ((48 + u % 10) :: l)
      simp only [List.length_cons] at this
      omega
end Go.Se
namespace Go.Se
/-- A text's bytes as numbers. -/
def listOf (s : ByteArray) : List Int := s.data.toList.map fun b => (b.toNat : Int)
def rdrop : List Int → List Int
  | [] => []
  | a :: r => bif a == 48 then rdrop r else a :: r
/-- Without noughts at the end. -/
def trimL (l : List Int) : List Int := (rdrop l.reverse).reverse
def trimB (s : ByteArray) : ByteArray := bytesOf (trimL (listOf s))
def inByte (l : List Int) : Prop := ∀ x, x ∈ l → 0 ≤ x ∧ x ≤ 255
theorem bytes_list (s : ByteArray) : bytesOf (listOf s) = s := by
  unfold bytesOf listOf
  apply ByteArray.ext
  rw [List.map_map]
  have : ((fun n : Int => UInt8.ofNat n.toNat) ∘ fun b : UInt8 => (b.toNat : Int)) = id := by
    funext b
    simp
  rw [this, List.map_id]
theorem list_bytes {l : List Int} (h : inByte l) : listOf (bytesOf l) = l := by
  unfold bytesOf listOf
  simp only [List.map_map]
  conv => rhs; rw [← List.map_id l]
  refine List.map_congr_left fun x hx => ?_
  have := h x hx
  simp only [Function.comp, id_eq, UInt8.toNat_ofNat']
  omega
theorem list_inByte (s : ByteArray) : inByte (listOf s) := fun x hx => by
  unfold listOf at hx
  obtain ⟨b, _, rfl⟩ := List.mem_map.1 hx
  have := b.toNat_lt
  omega
def lastB (s : ByteArray) : Int := ((s.data.getD (IntKind.i64.wrap ((s.size : Int) - 1)).toNat 0).toNat : Int)
def cutB (s : ByteArray) : ByteArray := s.extract ((0 : Nat) : Int).toNat (IntKind.i64.wrap ((s.size : Int) - 1)).toNat
theorem last_size {a : Int} {r : List Int} (h : (a :: r).length < 9223372036854775808) : (IntKind.i64.wrap (((bytesOf (a :: r).reverse).size : Int) - 1)) = (r.length : Int) := by
  rw [bytes_size, wi64]
  simp only [List.length_reverse, List.length_cons] at h ⊢
  omega
theorem last_bytes {a : Int} {r : List Int} (h : (a :: r).length < 9223372036854775808) (ha : 0 ≤ a) (ha' : a ≤ 255) : lastB (bytesOf (a :: r).reverse) = a := by
  unfold lastB
  rw [last_size h]
  have : (bytesOf (a :: r).reverse).data = ((r.reverse.map fun n => UInt8.ofNat n.toNat) ++ [UInt8.ofNat a.toNat]).toArray := by simp [bytesOf]
  rw [this]
  simp only [Int.toNat_natCast, Array.getD_eq_getD_getElem?, List.getElem?_toArray]
  rw [List.getElem?_append_right (by simp)]
  simp
  omega
theorem cut_bytes {a : Int} {r : List Int} (h : (a :: r).length < 9223372036854775808) : cutB (bytesOf (a :: r).reverse) = bytesOf r.reverse := by
  unfold cutB
  rw [last_size h]
  apply ByteArray.ext
  simp only [bytesOf, ByteArray.data_extract, List.reverse_cons, List.map_append, List.map_cons, List.map_nil, Int.toNat_natCast]
  simp
theorem digA_inByte : ∀ (f : Nat) (u least j : Int) (l : List Int), 0 ≤ u → (∀ x, x ∈ l → 48 ≤ x ∧ x ≤ 57) → ∀ x, x ∈ digA f u least j l → 48 ≤ x ∧ x ≤ 57
  | 0, _, _, _, l, _, h => h
  | f + 1, u, least, j, l, hu, h => by
    rw [digA_succ]
    cases decide (u > 0) || decide (j < least)
    · exact h
    · refine digA_inByte f (u / 10) least (j + 1) _ (by omega) fun x hx => ?_
      rcases List.mem_cons.1 hx with rfl | hx
      · omega
      · exact h x hx
theorem digL10_digits {u least : Int} (hu : 0 ≤ u) : ∀ x, x ∈ digL10 u least → 48 ≤ x ∧ x ≤ 57 := digA_inByte 20 u least 0 [] hu fun x hx => by cases hx
def padTo (l : List Int) : List Int := List.replicate (10 - l.length) 48 ++ l
def fracT (u : Int) : Int := divV (u % 4294967296 * 10000000000) 4294967296
def signL (n : Int) : List Int := bif decide (n < 0) then [45] else []
def wholeL (n : Int) : List Int := signL n ++ digL10 (absI n) 1
def textL (n : Int) : List Int :=
  signL n ++ (digL10 (absI n / 4294967296) 1 ++ bif fracT (absI n) == 0 then [] else 46 :: trimL (digL10 (fracT (absI n)) 10))
theorem fracT_range {u : Int} (_hu : 0 ≤ u) : 0 ≤ fracT u ∧ fracT u ≤ 10000000000 := by
  unfold fracT divV divGood divN rneQ
  have h0 : 0 ≤ u % 4294967296 * 10000000000 := by omega
  have h1 : u % 4294967296 * 10000000000 ≤ 4294967295 * 10000000000 := by omega
  rw [show absI (u % 4294967296 * 10000000000) = u % 4294967296 * 10000000000 by unfold absI; rw [decide_eq_false (show ¬ u % 4294967296 * 10000000000 < 0 by omega)]; rfl]
  rw [show absI 4294967296 = 4294967296 by decide, decide_eq_false (show ¬ u % 4294967296 * 10000000000 < 0 by omega)]
  generalize u % 4294967296 * 10000000000 = p at *
  rw [show (false != decide ((4294967296 : Int) < 0)) = false by decide]
  simp only [cond_false]
  cases hc : (decide (p % 4294967296 > 4294967296 - p % 4294967296) || (p % 4294967296 == 4294967296 - p % 4294967296 && p / 4294967296 % 2 == 1)) && decide (p % 4294967296 > 0)
  · simp only [cond_false]
    cases hg : ((4294967296 : Int) != 0 && in64 (p / 4294967296))
    · simp only [cond_false]; omega
    · simp only [cond_true]; omega
  · simp only [cond_true]
    cases hg : ((4294967296 : Int) != 0 && in64 (p / 4294967296 + 1))
    · simp only [cond_false]; omega
    · simp only [cond_true]; omega
end Go.Se
namespace Go.Se
theorem list_length (s : ByteArray) : (listOf s).length = s.size := by
  unfold listOf
  rw [List.length_map, Array.length_toList]; rfl
end Go.Se
namespace Go.Se
theorem rdrop_length : ∀ r : List Int, (rdrop r).length ≤ r.length
  | [] => Nat.le_refl _
  | a :: r => by
    unfold rdrop
    cases a == 48
    · exact Nat.le_refl _
    · have := rdrop_length r
      simp only [cond_true, List.length_cons]; omega
theorem trimL_length (l : List Int) : (trimL l).length ≤ l.length := by
  unfold trimL
  have := rdrop_length l.reverse
  rw [List.length_reverse] at this ⊢
  exact this
theorem digits_inByte {u least : Int} (hu : 0 ≤ u) : inByte (digL10 u least) := fun x hx => by
  have := digL10_digits hu x hx
  omega
theorem trimB_bytes {l : List Int} (h : inByte l) : trimB (bytesOf l) = bytesOf (trimL l) := by
  unfold trimB
  rw [list_bytes h]
theorem digL10_length (u least : Int) : (digL10 u least).length ≤ 20 := by
  have := digA_length 20 u least 0 []
  rw [List.length_nil, Nat.zero_add] at this
  exact this
def m32b (x : Int) : Int := IntKind.u64.wrap ↑(BitVec.ofInt IntKind.u64.bits x &&& BitVec.ofInt IntKind.u64.bits 4294967295).toNat
def textT (sg : ByteArray) (u : Int) (K : KC) : Prop :=
  (fun h p => If (decide (sg.size + h.size < 9223372036854775808)) ((fun d => Br (decide (d > 0)) (If (decide ((⟨#[46]⟩ : ByteArray).size + (trimB (bytesOf (digL10 (IntKind.u64.wrap d) 10))).size < 9223372036854775808))
      (If (decide ((sg ++ h).size + ((⟨#[46]⟩ : ByteArray) ++ trimB (bytesOf (digL10 (IntKind.u64.wrap d) 10))).size < 9223372036854775808)) (K (.str ((sg ++ h) ++ ((⟨#[46]⟩ : ByteArray) ++ trimB (bytesOf (digL10 (IntKind.u64.wrap d) 10))))) [] [])))
    (K (.str (sg ++ h)) [] [])) (divV (wv (p / 18446744073709551616) (p % 18446744073709551616)) 4294967296)))
    (bytesOf (digL10 (u.fdiv (2 ^ min (32 : Int).toNat IntKind.u64.bits)) 1)) (IntKind.i64.wrap (m32b u) * 10000000000)
def fracL (u : Int) : List Int := bif fracT u == 0 then [] else 46 :: trimL (digL10 (fracT u) 10)
theorem textT_law {sg : List Int} {u : Int} {K : KC} (h0 : 0 ≤ u) (h1 : u ≤ 9223372036854775808) (hs : sg.length ≤ 1)
    (hK : K (.str (bytesOf (sg ++ (digL10 (u / 4294967296) 1 ++ fracL u)))) [] []) : textT (bytesOf sg) u K := by
  have hm : m32b u = u % 4294967296 := by
    unfold m32b; rw [wu64]
    show (((BitVec.ofInt 64 u &&& BitVec.ofInt 64 4294967295).toNat : Nat) : Int) % _ = _
    rw [and_m32 u h0 (by omega)]; omega
  have hw : IntKind.i64.wrap (u % 4294967296) = u % 4294967296 := by rw [wi64]; omega
  have hd : u.fdiv (2 ^ min (32 : Int).toNat IntKind.u64.bits) = u / 4294967296 := by
    show u.fdiv 4294967296 = _
    exact fdiv_pos _ (by decide)
  have hf := fracT_range h0
  have hwf : IntKind.u64.wrap (fracT u) = fracT u := by rw [wu64]; omega
  have l1 := digL10_length (u / 4294967296) 1
  have l2 := digL10_length (fracT u) 10
  have l3 := trimL_length (digL10 (fracT u) 10)
  unfold textT
  rw [hm, hw, hd]
  show If _ (Br _ _ _)
  rw [wv_wide]
  show If _ (Br (decide (fracT u > 0)) (If (decide ((⟨#[46]⟩ : ByteArray).size + (trimB (bytesOf (digL10 (IntKind.u64.wrap (fracT u)) 10))).size < 9223372036854775808))
      (If (decide ((bytesOf sg ++ bytesOf (digL10 (u / 4294967296) 1)).size + ((⟨#[46]⟩ : ByteArray) ++ trimB (bytesOf (digL10 (IntKind.u64.wrap (fracT u)) 10))).size < 9223372036854775808)) (K (.str ((bytesOf sg ++ bytesOf (digL10 (u / 4294967296) 1)) ++ ((⟨#[46]⟩ : ByteArray) ++ trimB (bytesOf (digL10 (IntKind.u64.wrap (fracT u)) 10))))) [] [])))
    (K (.str (bytesOf sg ++ bytesOf (digL10 (u / 4294967296) 1))) [] []))
  rw [hwf, trimB_bytes (digits_inByte hf.1), show (⟨#[46]⟩ : ByteArray) = bytesOf [46] from rfl, bytes_append, bytes_append, bytes_append, bytes_size, bytes_size, bytes_size, bytes_size, bytes_size, bytes_size]
  unfold fracL at hK
  refine If.mk (decide_eq_true (by omega)) (Br.of (fun c => If.mk (decide_eq_true ?_) (If.mk (decide_eq_true ?_) ?_)) fun c => ?_)
  · simp only [List.length_cons, List.length_nil]; omega
  · simp only [List.length_append, List.length_cons, List.length_nil]; omega
  · have := of_decide_eq_true c
    rw [show (fracT u == 0) = false by rw [beq_eq_false_iff_ne]; omega] at hK
    rw [List.append_assoc]
    exact hK
  · have := of_decide_eq_false c
    rw [show (fracT u == 0) = true by rw [beq_iff_eq]; omega] at hK
    simp only [cond_true, List.append_nil] at hK
    exact hK
end Go.Se

/- Part 41: where a byte stands in a text: what the model itself has. -/
namespace Go.Se
variable {P : Program}
/-- Where a byte stands first; -1: nowhere. -/
def idxFrom (c : Int) : Nat → List Int → Int
  | _, [] => -1
  | i, a :: l => bif a == c then (i : Int) else idxFrom c (i + 1) l
def idxB (s : ByteArray) (c : Int) : Int := match (List.range s.size).find? fun i => s[i]! == c.toNat.toUInt8 with
  | some i => (i : Int)
  | none => -1
def cIdxB : List SV → List (Option SB) → Out
  | [.str s, .int .u8 c], [] => some (.int .i64 (idxB s c), [], [])
  | _, _ => none
theorem two_args {ρ : Names} {T : Nat → Prop} {w : World} {x y : SV} {vals : Array Value} (h : relL ρ T w [x, y] vals.toList) : ∃ a b, vals = #[a, b] ∧ rel ρ T w x a ∧ rel ρ T w y b := by
  obtain ⟨a, r, h1, ha, b, s, h2, hb, h4⟩ := h
  cases h4
  subst h2
  exact ⟨a, b, by rw [← Array.toList_inj, h1], ha, hb⟩
theorem idxB_range (s : ByteArray) (c : Int) (hs : s.size < 9223372036854775808) : -9223372036854775808 ≤ idxB s c ∧ idxB s c ≤ 9223372036854775807 := by
  unfold idxB
  cases h : (List.range s.size).find? fun i => s[i]! == c.toNat.toUInt8 with
  | none => simp
  | some i =>
    have := List.mem_range.1 (List.mem_of_find?_eq_some h)
    show _ ≤ (i : Int) ∧ (i : Int) ≤ _
    omega
theorem idxB_sat {k : FuncId} {fn : Func} (hf : P.funcs[k]? = some fn) (hname : (fn.name == "runtime.NumGoroutine") = false) (hb : fn.body.isNone = true)
    (hn : Extern.findNext fn = none) (he : Extern.find fn = some Extern.BytealgIndexByte.indexByte) (xs : List SV) (σ : List (Option SB)) : Sat P k xs σ (one cIdxB xs σ) := by
  refine one_sat (fun xs σ v σ' d h => ?_) xs σ
  unfold cIdxB at h
  split at h
  · rename_i s c
    cases h
    refine callOK_extern hf hname hb hn he fun T w vals hv => ?_
    obtain ⟨_, _, rfl, ⟨rfl, hs⟩, ⟨rfl, hc⟩⟩ := two_args hv
    refine ⟨.int .i64 (idxB s c), ?_, rfl, idxB_range s c hs⟩
    unfold idxB
    show (do
      let b ← Extern.Bytes.bytesOf (.string s)
      let d ← Extern.Bytes.asByte (.int .u8 c)
      match (List.range b.size).find? fun i => b[i]! == d with
      | some i => pure (goInt i)
      | none => pure (goInt (-1)) : Sem Value).run P w = _
    simp only [Extern.Bytes.bytesOf, Extern.Bytes.asByte, Sem.run_bind, Sem.run_pure, Result.andThen_ok]
    cases h : (List.range s.size).find? fun i => s[i]! == c.toNat.toUInt8 with
    | none => rfl
    | some i => rfl
  · cases h
/-- How often a byte stands in a text. -/
def cntB (s : ByteArray) (c : Int) : Nat := s.data.toList.countP (· == c.toNat.toUInt8)
def cCntB : List SV → List (Option SB) → Out
  | [.str s, .int .u8 c], [] => some (.int .i64 (cntB s c), [], [])
  | _, _ => none
theorem cntB_sat {k : FuncId} {fn : Func} (hf : P.funcs[k]? = some fn) (hname : (fn.name == "runtime.NumGoroutine") = false) (hb : fn.body.isNone = true)
    (hn : Extern.findNext fn = none) (he : Extern.find fn = some Extern.BytealgCount.count) (xs : List SV) (σ : List (Option SB)) : Sat P k xs σ (one cCntB xs σ) := by
  refine one_sat (fun xs σ v σ' d h => ?_) xs σ
  unfold cCntB at h
  split at h
  · rename_i s c
    cases h
    refine callOK_extern hf hname hb hn he fun T w vals hv => ?_
    obtain ⟨_, _, rfl, ⟨rfl, hs⟩, ⟨rfl, hc⟩⟩ := two_args hv
    refine ⟨.int .i64 (cntB s c), Lib.run_countString s c w, rfl, ?_⟩
    have h1 : cntB s c ≤ s.size := Nat.le_trans (List.countP_le_length) (by rw [Array.length_toList]; exact Nat.le_refl _)
    show (-9223372036854775808 : Int) ≤ _ ∧ _ ≤ (9223372036854775807 : Int); omega
  · cases h
end Go.Se

/- Part 42: numbers out of texts: plain. -/
namespace Go.Se
theorem extract_bytes (l : List Int) (i j : Nat) : (bytesOf l).extract i j = bytesOf ((l.drop i).take (j - i)) := by
  apply ByteArray.ext
  simp only [bytesOf, ByteArray.data_extract, List.extract_toArray, List.map_take, List.map_drop]
theorem index_bytes {l : List Int} (h : inByte l) (i : Nat) : (((bytesOf l).data.getD i 0).toNat : Int) = l.getD i 0 := by
  simp only [bytesOf, Array.getD_eq_getD_getElem?, List.getElem?_toArray, List.getElem?_map, List.getD_eq_getElem?_getD]
  cases hl : l[i]? with
  | none => simp
  | some x =>
    have := h x (List.mem_of_getElem? hl)
    simp
    omega
theorem beq_bytes {a b : List Int} (ha : inByte a) (hb : inByte b) : (bytesOf a == bytesOf b) = decide (a = b) := by
  rw [Bool.eq_iff_iff, ba_beq, beq_iff_eq, decide_eq_true_eq]
  constructor
  · intro h
    rw [← list_bytes ha, ← list_bytes hb, show bytesOf a = bytesOf b from ByteArray.ext h]
  · rintro rfl; rfl
theorem bang_bytes {l : List Int} (_h : inByte l) {i : Nat} (hi : i < l.length) : (bytesOf l)[i]! = (l.getD i 0).toNat.toUInt8 := by
  have hs : i < (bytesOf l).size := by rw [bytes_size]; exact hi
  rw [getElem!_pos (bytesOf l) i hs]
  show (bytesOf l).data[i] = _
  simp only [bytesOf, List.getElem_toArray, List.getElem_map, List.getD_eq_getElem?_getD, List.getElem?_eq_getElem hi, Option.getD_some]
theorem find_congr {α : Type} {p q : α → Bool} : ∀ l : List α, (∀ x, x ∈ l → p x = q x) → l.find? p = l.find? q
  | [], _ => rfl
  | a :: l, h => by
    rw [List.find?_cons, List.find?_cons, h a (List.mem_cons_self ..), find_congr l fun x hx => h x (List.mem_cons_of_mem _ hx)]
theorem idxFrom_find (c : Int) (hc : 0 ≤ c) (hc' : c ≤ 255) : ∀ (l : List Int) (o : Nat), inByte l → idxFrom c o l = match (List.range l.length).find? fun i => (l.getD i 0).toNat.toUInt8 == c.toNat.toUInt8 with
    | some i => ((o + i : Nat) : Int)
    | none => -1
  | [], o, _ => rfl
  | a :: l, o, h => by
    have ha := h a (List.mem_cons_self ..)
    have hb : (a.toNat.toUInt8 == c.toNat.toUInt8) = (a == c) := by
      rw [Bool.eq_iff_iff, beq_iff_eq, beq_iff_eq]
      constructor
      · intro e
        have := congrArg UInt8.toNat e
        simp at this
        omega
      · rintro rfl; rfl
    unfold idxFrom
    rw [List.length_cons, List.range_succ_eq_map, List.find?_cons]
    simp only [List.getD_cons_zero, hb]
    cases hac : a == c
    · simp only [cond_false]
      rw [idxFrom_find c hc hc' l (o + 1) (fun x hx => h x (List.mem_cons_of_mem _ hx)), List.find?_map]
      simp only [Function.comp_def, List.getD_cons_succ]
      cases (List.range l.length).find? fun i => (l.getD i 0).toNat.toUInt8 == c.toNat.toUInt8 with
      | none => rfl
      | some i => simp only [Option.map_some]; congr 1; omega
    · simp
theorem idxB_bytes {l : List Int} (h : inByte l) {c : Int} (hc : 0 ≤ c) (hc' : c ≤ 255) : idxB (bytesOf l) c = idxFrom c 0 l := by
  rw [idxFrom_find c hc hc' l 0 h]
  unfold idxB
  rw [bytes_size]
  have : (List.range l.length).find? (fun i => (bytesOf l)[i]! == c.toNat.toUInt8) = (List.range l.length).find? fun i => (l.getD i 0).toNat.toUInt8 == c.toNat.toUInt8 := by
    refine find_congr _ fun i hi => ?_
    rw [bang_bytes h (List.mem_range.1 hi)]
  rw [this]
  cases (List.range l.length).find? fun i => (l.getD i 0).toNat.toUInt8 == c.toNat.toUInt8 with
  | none => rfl
  | some i => simp
end Go.Se
namespace Go.Se
def minusB : List Int → Bool
  | a :: _ => a == 45
  | [] => false
def minusL (l : List Int) : List Int := bif minusB l then l.tail else l
def cutH (c : Int) : List Int → List Int
  | [] => []
  | a :: l => bif a == c then [] else a :: cutH c l
def cutT (c : Int) : List Int → List Int
  | [] => []
  | a :: l => bif a == c then l else cutT c l
def hasC (c : Int) : List Int → Bool
  | [] => false
  | a :: l => a == c || hasC c l
theorem idxFrom_cut (c : Int) : ∀ (l : List Int) (o : Nat), idxFrom c o l = bif hasC c l then ((o + (cutH c l).length : Nat) : Int) else -1
  | [], o => rfl
  | a :: l, o => by
    unfold idxFrom hasC cutH
    cases h : a == c
    · simp only [cond_false, Bool.false_or]
      rw [idxFrom_cut c l (o + 1)]
      cases hasC c l
      · rfl
      · simp only [cond_true, List.length_cons]; congr 1; omega
    · simp
theorem cut_parts (c : Int) : ∀ l : List Int, hasC c l = true → l = cutH c l ++ c :: cutT c l
  | [], h => by cases h
  | a :: l, h => by
    unfold hasC at h
    unfold cutH cutT
    cases e : a == c
    · rw [e, Bool.false_or] at h
      simp only [cond_false, List.cons_append]
      rw [← cut_parts c l h]
    · have : a = c := by simpa using e
      subst this
      rfl
theorem cutH_none (c : Int) : ∀ l : List Int, hasC c l = false → cutH c l = l
  | [], _ => rfl
  | a :: l, h => by
    unfold hasC at h
    rw [Bool.or_eq_false_iff] at h
    unfold cutH
    rw [h.1]
    simp only [cond_false]
    rw [cutH_none c l h.2]
def digC (a : Int) : Int := IntKind.u8.wrap (a - 48)
def numS : Int → List Int → Option Int
  | n, [] => some n
  | n, a :: l => bif decide (digC a > 9) then none else numS (IntKind.i64.wrap (IntKind.i64.wrap (10 * n) + IntKind.i64.wrap (digC a))) l
def numG (l : List Int) (most : Int) : Bool := decide (l.length < 1) || decide ((l.length : Int) > most)
def numN (l : List Int) (most : Int) : Int := bif numG l most then 0 else (numS 0 l).getD 0
def numB (l : List Int) (most : Int) : Bool := bif numG l most then false else (numS 0 l).isSome
/-- What a row of digits tells. -/
def valD : Int → List Int → Int
  | n, [] => n
  | n, a :: l => valD (10 * n + (a - 48)) l
def allD (l : List Int) : Prop := ∀ x, x ∈ l → 48 ≤ x ∧ x ≤ 57
theorem ten_pos (k : Nat) : (1 : Int) ≤ 10 ^ k := by
  have : (0 : Int) < 10 ^ k := Int.pow_pos (by decide)
  omega
theorem numS_digits : ∀ (l : List Int) (n : Int), allD l → 0 ≤ n → n < 10 ^ (18 - l.length) → l.length ≤ 18 → numS n l = some (valD n l) ∧ 0 ≤ valD n l ∧ valD n l < 1000000000000000000
  | [], n, _, h0, h1, _ => ⟨rfl, h0, h1⟩
  | a :: l, n, hd, h0, h1, hl => by
    have ha := hd a (List.mem_cons_self ..)
    simp only [List.length_cons] at h1 hl
    have hc : digC a = a - 48 := by unfold digC; rw [wu8]; omega
    have hp : (10 : Int) ^ (18 - l.length) = 10 ^ (18 - (l.length + 1)) * 10 := by
      rw [show 18 - l.length = (18 - (l.length + 1)) + 1 by omega, Int.pow_succ]
    have hb : (10 : Int) ^ (18 - l.length) ≤ 1000000000000000000 := by
      have : (10 : Int) ^ (18 - l.length) * 10 ^ l.length = 10 ^ 18 := by rw [← Int.pow_add]; congr 1; omega
      have h1' : (1 : Int) ≤ 10 ^ l.length := ten_pos l.length
      have hq : (0 : Int) < 10 ^ (18 - l.length) := Int.pow_pos (by decide)
      have := Int.mul_le_mul_of_nonneg_left h1' (Int.le_of_lt hq)
      omega
    unfold numS valD
    rw [hc, decide_eq_false (show ¬ a - 48 > 9 by omega)]
    simp only [cond_false, wi64]
    rw [show ((10 * n + 9223372036854775808) % 18446744073709551616 - 9223372036854775808 + ((a - 48 + 9223372036854775808) % 18446744073709551616 - 9223372036854775808) + 9223372036854775808) % 18446744073709551616 - 9223372036854775808 = 10 * n + (a - 48) by omega]
    exact numS_digits l (10 * n + (a - 48)) (fun x hx => hd x (List.mem_cons_of_mem _ hx)) (by omega) (by omega) (by omega)
theorem valD_add : ∀ (l : List Int) (n : Int), valD n l = n * 10 ^ l.length + valD 0 l
  | [], n => by simp [valD]
  | a :: l, n => by
    unfold valD
    rw [valD_add l, valD_add l (10 * 0 + (a - 48)), List.length_cons, Int.pow_succ]
    grind
theorem valD_digA : ∀ (f : Nat) (u least j : Int) (l : List Int), 0 ≤ u → u < 10 ^ f → valD 0 (digA f u least j l) = u * 10 ^ l.length + valD 0 l
  | 0, u, _, _, l, h0, h1 => by
    have : u = 0 := by simp at h1; omega
    subst this
    simp [digA]
  | f + 1, u, least, j, l, h0, h1 => by
    have hp : (10 : Int) ^ (f + 1) = 10 ^ f * 10 := Int.pow_succ 10 f
    rw [digA_succ]
    cases h : decide (u > 0) || decide (j < least)
    · simp only [cond_false]
      have : u = 0 := by
        rw [Bool.or_eq_false_iff] at h
        have := of_decide_eq_false h.1
        omega
      subst this
      simp
    · simp only [cond_true]
      rw [valD_digA f (u / 10) least (j + 1) _ (by omega) (by omega), List.length_cons, Int.pow_succ, valD, valD_add]
      have e : u = u / 10 * 10 + u % 10 := by omega
      generalize u / 10 = q at *
      generalize u % 10 = r at *
      subst e
      grind
theorem valD_digL10 {u least : Int} (h0 : 0 ≤ u) (h1 : u < 18446744073709551616) : valD 0 (digL10 u least) = u := by
  have := valD_digA 20 u least 0 [] h0 (by omega)
  simpa [digL10, valD] using this
theorem valD_append : ∀ (a b : List Int) (n : Int), valD n (a ++ b) = valD (valD n a) b
  | [], _, _ => rfl
  | x :: a, b, n => valD_append a b (10 * n + (x - 48))
/-- So many digits at the most. -/
theorem digA_len : ∀ (f k : Nat) (u : Int) (j : Nat) (l : List Int), l.length = j → 0 ≤ u → u < 10 ^ k → j + k ≤ j + f → (digA f u 1 j l).length ≤ max 1 (j + k)
  | 0, k, u, j, l, hl, h0, h1, hk => by
    show l.length ≤ _
    omega
  | f + 1, k, u, j, l, hl, h0, h1, hk => by
    rw [digA_succ]
    by_cases hu : 0 < u
    · rw [decide_eq_true (show u > 0 from hu)]
      simp only [Bool.true_or, cond_true]
      cases k with
      | zero => simp at h1; omega
      | succ k =>
        have hp : (10 : Int) ^ (k + 1) = 10 ^ k * 10 := Int.pow_succ 10 k
        have := digA_len f k (u / 10) (j + 1) ((48 + u % 10) :: l) (by simp [hl]) (by omega) (by omega) (by omega)
        push_cast at this
        omega
    · have : u = 0 := by omega
      subst this
      rw [show decide ((0 : Int) > 0) = false from rfl, Bool.false_or]
      by_cases hj : (j : Int) < 1
      · rw [decide_eq_true hj]
        simp only [cond_true]
        have hj0 : j = 0 := by omega
        subst hj0
        have hl0 : l = [] := List.length_eq_zero_iff.1 hl
        subst hl0
        cases f with
        | zero => simp [digA]; omega
        | succ f =>
          rw [digA_succ]
          simp
          omega
      · rw [decide_eq_false hj]
        simp only [cond_false]
        omega
end Go.Se
namespace Go.Se
theorem digA_min : ∀ (f : Nat) (u : Int) (j : Nat) (l : List Int), l.length = j → 1 ≤ (digA (f + 1) u 1 j l).length
  | f, u, j, l, hl => by
    rw [digA_succ]
    cases h : decide (u > 0) || decide ((j : Int) < 1)
    · simp only [cond_false]
      rw [Bool.or_eq_false_iff] at h
      have := of_decide_eq_false h.2
      omega
    · simp only [cond_true]
      have : ∀ (f : Nat) (u least j : Int) (l : List Int), l.length ≤ (digA f u least j l).length := fun f => by
        induction f with
        | zero => intro _ _ _ l; exact Nat.le_refl _
        | succ f ih =>
          intro u least j l
          rw [digA_succ]
          cases decide (u > 0) || decide (j < least)
          · exact Nat.le_refl _
          · have := ih (u / 10) least (j + 1) ((48 + u % 10) :: l)
            simp only [cond_true, List.length_cons] at this ⊢
            omega
      have := this f (u / 10) 1 (j + 1) ((48 + u % 10) :: l)
      simp only [List.length_cons] at this
      omega
theorem digL10_min (u : Int) : 1 ≤ (digL10 u 1).length := digA_min 19 u 0 [] rfl
theorem digL10_small {k : Nat} {u : Int} (h0 : 0 ≤ u) (h1 : u < 10 ^ k) (hk : k ≤ 20) : (digL10 u 1).length ≤ max 1 k := by
  have := digA_len 20 k u 0 [] rfl h0 h1 (by omega)
  rw [Nat.zero_add] at this
  exact this
theorem num_ok {l : List Int} {most : Int} (hd : allD l) (h1 : 1 ≤ l.length) (h2 : (l.length : Int) ≤ most) (h3 : l.length ≤ 18) : numB l most = true ∧ numN l most = valD 0 l := by
  have hg : numG l most = false := by
    unfold numG
    rw [decide_eq_false (show ¬ l.length < 1 by omega), decide_eq_false (show ¬ (l.length : Int) > most by omega)]; rfl
  obtain ⟨h, _, _⟩ := numS_digits l 0 hd (Int.le_refl 0) (by have := ten_pos (18 - l.length); omega) h3
  unfold numB numN
  rw [hg, h]
  exact ⟨rfl, rfl⟩
theorem minus_digits {l m : List Int} (hd : allD l) (h1 : 1 ≤ l.length) : minusB (l ++ m) = false ∧ minusL (l ++ m) = l ++ m := by
  cases l with
  | nil => simp at h1
  | cons a l =>
    have := hd a (List.mem_cons_self ..)
    have hb : minusB (a :: l ++ m) = false := by
      show (a == 45) = false
      rw [beq_eq_false_iff_ne]; omega
    exact ⟨hb, by unfold minusL; rw [hb]; rfl⟩
theorem rneQ_near (n : Int) (h : 0 ≤ n) : 2 * n - 10000000000 ≤ 20000000000 * rneQ n 10000000000 ∧ 20000000000 * rneQ n 10000000000 ≤ 2 * n + 10000000000 ∧ 0 ≤ rneQ n 10000000000 := by
  unfold rneQ
  cases hc : (decide (n % 10000000000 > 10000000000 - n % 10000000000) || (n % 10000000000 == 10000000000 - n % 10000000000 && n / 10000000000 % 2 == 1)) && decide (n % 10000000000 > 0)
  · simp only [cond_false]
    have : ¬ n % 10000000000 > 10000000000 - n % 10000000000 := fun h1 => by
      rw [decide_eq_true h1, Bool.true_or, Bool.true_and] at hc
      have := of_decide_eq_false hc; omega
    omega
  · simp only [cond_true]
    simp only [Bool.and_eq_true, Bool.or_eq_true, decide_eq_true_eq, beq_iff_eq] at hc
    omega
end Go.Se
namespace Go.Se
theorem cutT_none (c : Int) : ∀ l : List Int, hasC c l = false → cutT c l = []
  | [], _ => rfl
  | a :: l, h => by
    unfold hasC at h
    rw [Bool.or_eq_false_iff] at h
    unfold cutT
    rw [h.1]
    exact cutT_none c l h.2
theorem cut_take (c : Int) : ∀ l : List Int, l.take (cutH c l).length = cutH c l
  | [] => rfl
  | a :: l => by
    unfold cutH
    cases a == c
    · simp only [cond_false, List.length_cons, List.take_succ_cons, cut_take c l]
    · rfl
theorem cut_drop (c : Int) : ∀ l : List Int, hasC c l = true → l.drop ((cutH c l).length + 1) = cutT c l ∧ (cutH c l).length + 1 ≤ l.length
  | [], h => by cases h
  | a :: l, h => by
    unfold hasC at h
    unfold cutH cutT
    cases e : a == c
    · rw [e, Bool.false_or] at h
      have := cut_drop c l h
      simp only [cond_false, List.length_cons, List.drop_succ_cons]
      exact ⟨this.1, by omega⟩
    · simp
def cCutPrefix : List SV → List (Option SB) → Option (Bool × SV × List (Option SB) × List Nat)
  | [.str s, .str t], [] => some (t == ⟨#[45]⟩, .tup [.str (bytesOf (minusL (listOf s))), .bool (minusB (listOf s))], [], [])
  | _, _ => none
def cCut : List SV → List (Option SB) → Option (Bool × SV × List (Option SB) × List Nat)
  | [.str s, .str t], [] => some (t == ⟨#[46]⟩, .tup [.str (bytesOf (cutH 46 (listOf s))), .str (bytesOf (cutT 46 (listOf s))), .bool (hasC 46 (listOf s))], [], [])
  | _, _ => none
def cNumber : List SV → List (Option SB) → Out
  | [.str s, .int .i64 m], [] => some (.tup [.int .i64 (numN (listOf s) m), .bool (numB (listOf s) m)], [], [])
  | _, _ => none
def cRepeat : List SV → List (Option SB) → Option (Bool × SV × List (Option SB) × List Nat)
  | [.str s, .int .i64 k], [] => some (s == ⟨#[48]⟩ && (decide (0 ≤ k) && decide (k ≤ 9)), .str (bytesOf (List.replicate k.toNat 48)), [], [])
  | _, _ => none
theorem cutPrefix_law {l : List Int} {K : KC} (hb : inByte l) (hK : K (.tup [.str (bytesOf (minusL l)), .bool (minusB l)]) [] []) :
    Br (decide (((bytesOf l).size : Int) ≥ 1)) (If (true && (true && decide ((1 : Int) ≤ ((bytesOf l).size : Int)))) (Br (!((bytesOf l).extract 0 1 == ⟨#[45]⟩)) (K (.tup [.str (bytesOf l), .bool false]) [] [])
      (If (true && (decide ((1 : Int) ≤ ((bytesOf l).size : Int)) && decide (((bytesOf l).size : Int) ≤ ((bytesOf l).size : Int)))) (K (.tup [.str ((bytesOf l).extract 1 ((bytesOf l).size : Int).toNat), .bool true]) [] []))))
      (K (.tup [.str (bytesOf l), .bool false]) [] []) := by
  rw [bytes_size]
  cases l with
  | nil => exact Br.of (fun c => by have := of_decide_eq_true c; simp at this) fun _ => hK
  | cons a l =>
    have ha : inByte [a] := fun x hx => hb x (by rcases List.mem_singleton.1 hx with rfl; exact List.mem_cons_self ..)
    rw [extract_bytes, extract_bytes, show (⟨#[45]⟩ : ByteArray) = bytesOf [45] from rfl]
    simp only [List.drop_zero, List.take_succ_cons, List.take_zero, List.drop_succ_cons, Nat.sub_zero]
    rw [beq_bytes ha (fun x hx => by rcases List.mem_singleton.1 hx with rfl; omega), Int.toNat_natCast, List.length_cons, Nat.add_sub_cancel, List.take_length]
    refine Br.of (fun c => If.mk (by simpa using c) (Br.of (fun e => ?_) fun e => If.mk (by simpa using c) ?_)) fun c => ?_
    · have : ¬ a = 45 := by simpa using e
      have hm : minusB (a :: l) = false := by
        show (a == 45) = false
        simpa using this
      unfold minusL at hK
      rw [hm] at hK
      exact hK
    · have : a = 45 := by simpa using e
      subst this
      exact hK
    · have := of_decide_eq_false c
      simp at this
      omega
theorem cut_law {l : List Int} {K : KC} (hb : inByte l) (hl : l.length < 9223372036854775808) (hK : K (.tup [.str (bytesOf (cutH 46 l)), .str (bytesOf (cutT 46 l)), .bool (hasC 46 l)]) [] []) :
    Br ((⟨#[46]⟩ : ByteArray) == bytesOf l) (If (true && (decide ((1 : Int) ≤ ((bytesOf l).size : Int)) && decide (((bytesOf l).size : Int) ≤ ((bytesOf l).size : Int)))) (K (.tup [.str ((bytesOf l).extract 0 0), .str ((bytesOf l).extract 1 ((bytesOf l).size : Int).toNat), .bool true]) [] []))
      (Br (decide (idxB (bytesOf l) 46 ≥ 0)) (If (true && (decide ((0 : Int) ≤ idxB (bytesOf l) 46) && decide (idxB (bytesOf l) 46 ≤ ((bytesOf l).size : Int))))
        (If (decide (0 ≤ IntKind.i64.wrap (idxB (bytesOf l) 46 + 1)) && (decide (IntKind.i64.wrap (idxB (bytesOf l) 46 + 1) ≤ ((bytesOf l).size : Int)) && decide (((bytesOf l).size : Int) ≤ ((bytesOf l).size : Int))))
          (K (.tup [.str ((bytesOf l).extract 0 (idxB (bytesOf l) 46).toNat), .str ((bytesOf l).extract (IntKind.i64.wrap (idxB (bytesOf l) 46 + 1)).toNat ((bytesOf l).size : Int).toNat), .bool true]) [] [])))
        (K (.tup [.str (bytesOf l), .str ⟨#[]⟩, .bool false]) [] [])) := by
  rw [idxB_bytes hb (by decide) (by decide), idxFrom_cut, bytes_size]
  refine Br.of (fun c => ?_) fun _ => ?_
  · have hl1 : l = [46] := by
      rw [ba_beq, beq_iff_eq] at c
      have c : bytesOf [46] = bytesOf l := ByteArray.ext c
      have := congrArg listOf c
      rw [list_bytes hb, list_bytes (fun x hx => by rcases List.mem_singleton.1 hx with rfl; omega)] at this
      exact this.symm
    subst hl1
    exact If.mk rfl hK
  · cases hh : hasC 46 l with
    | false =>
      rw [hh, cutH_none _ _ hh, cutT_none _ _ hh] at hK
      refine Br.of (fun c => ?_) fun _ => hK
      have := of_decide_eq_true c
      simp at this
    | true =>
      obtain ⟨h1, h2⟩ := cut_drop 46 l hh
      have h3 := cut_take 46 l
      rw [hh] at hK
      simp only [cond_true, Nat.zero_add]
      have hw : IntKind.i64.wrap ((((cutH 46 l).length : Nat) : Int) + 1) = (((cutH 46 l).length + 1 : Nat) : Int) := by rw [wi64]; omega
      rw [hw, extract_bytes, extract_bytes]
      simp only [Int.toNat_natCast, List.drop_zero, Nat.sub_zero]
      rw [h3, h1, show (cutT 46 l).take (l.length - ((cutH 46 l).length + 1)) = cutT 46 l by rw [← h1, ← List.length_drop, List.take_length]]
      refine Br.of (fun _ => If.mk ?_ (If.mk ?_ hK)) fun c => ?_
      · simp only [Bool.true_and, Bool.and_eq_true, decide_eq_true_eq]; omega
      · simp only [Bool.and_eq_true, decide_eq_true_eq]; omega
      · have := of_decide_eq_false c
        omega
end Go.Se
namespace Go.Se
def padR (l : List Int) : List Int := l ++ List.replicate (10 - l.length) 48
def restN (l : List Int) : Int := bif numB l 10 then numN (padR l) 10 else 0
def restB (l : List Int) : Bool := bif numB l 10 then numB (padR l) 10 else false
def cRest : List SV → List (Option SB) → Out
  | [.str s], [] => some (.tup [.int .i64 (restN (listOf s)), .bool (restB (listOf s))], [], [])
  | _, _ => none
theorem numB_len {l : List Int} {m : Int} (h : numB l m = true) : 1 ≤ l.length ∧ (l.length : Int) ≤ m := by
  unfold numB at h
  cases hg : numG l m with
  | true => rw [hg] at h; cases h
  | false =>
    unfold numG at hg
    rw [Bool.or_eq_false_iff] at hg
    have a := of_decide_eq_false hg.1
    have b := of_decide_eq_false hg.2
    omega
theorem pad_inByte {l : List Int} (h : inByte l) (n : Nat) : inByte (l ++ List.replicate n 48) := fun x hx => by
  rcases List.mem_append.1 hx with hx | hx
  · exact h x hx
  · rw [List.eq_of_mem_replicate hx]; omega
def rdF (Z : Int) (K : KC) : Prop :=
  Br (Z / 18446744073709551616 != (IntKind.i64.wrap (Z % 18446744073709551616)).fdiv (2 ^ min (63 : Int).toNat IntKind.i64.bits)) (K (.tup [.int .i64 0, .int .i64 2]) [] []) (K (.tup [.int .i64 (IntKind.i64.wrap (Z % 18446744073709551616)), .int .i64 0]) [] [])
def rdS (a b : Int) : Int := bif in128 (wv (a / 18446744073709551616) (a % 18446744073709551616) + wv (b / 18446744073709551616) (b % 18446744073709551616)) then wv (a / 18446744073709551616) (a % 18446744073709551616) + wv (b / 18446744073709551616) (b % 18446744073709551616) else 0
def rdM (a : Int) : Int := bif in128 (-wv (a / 18446744073709551616) (a % 18446744073709551616)) then -wv (a / 18446744073709551616) (a % 18446744073709551616) else 0
def rdW (neg : Bool) (n f : Int) (K : KC) : Prop :=
  (fun X => Br neg (rdF (rdM X) K) (rdF X K)) (rdS (n * 4294967296) (divV (wv (f * 4294967296 / 18446744073709551616) (f * 4294967296 % 18446744073709551616)) 10000000000))
def rdQ (neg ok : Bool) (n f : Int) (K : KC) : Prop := Br (!ok) (K (.tup [.int .i64 0, .int .i64 24]) [] []) (rdW neg n f K)
def rdR (neg ok pt rb : Bool) (n f : Int) (K : KC) : Prop := Br ok (Br pt (rdQ neg rb n f K) (rdQ neg ok n 0 K)) (rdQ neg ok n 0 K)
def lsB (l : List Int) : List Int := listOf (bytesOf l)
def rdP (s : ByteArray) (K : KC) : Prop :=
  (fun l => rdR (minusB (listOf s)) (numB (lsB (cutH 46 l)) 10) (hasC 46 l) (restB (lsB (cutT 46 l))) (numN (lsB (cutH 46 l)) 10) (restN (lsB (cutT 46 l))) K) (lsB (minusL (listOf s)))
end Go.Se
namespace Go.Se
theorem textL_eq (n : Int) : textL n = signL n ++ (digL10 (absI n / 4294967296) 1 ++ fracL (absI n)) := rfl
theorem app_inByte {a b : List Int} (ha : inByte a) (hb : inByte b) : inByte (a ++ b) := fun x hx => by
  rcases List.mem_append.1 hx with hx | hx
  · exact ha x hx
  · exact hb x hx
theorem minus_sign {n : Int} {l m : List Int} (hd : allD l) (h1 : 1 ≤ l.length) : minusB (signL n ++ (l ++ m)) = decide (n < 0) ∧ minusL (signL n ++ (l ++ m)) = l ++ m := by
  unfold signL
  cases h : decide (n < 0)
  · simp only [cond_false, List.nil_append]
    exact minus_digits hd h1
  · exact ⟨rfl, rfl⟩
theorem lsB_eq {l : List Int} (h : inByte l) : lsB l = l := list_bytes h
end Go.Se
namespace Go.Se
def cRead (xs : List SV) (σ : List (Option SB)) (K : KC) : Prop :=
  ∃ n : Int, (xs = [.str (bytesOf (textL n))] ∧ σ = [] ∧ -9223372036854775808 ≤ n ∧ n ≤ 9223372036854775807) ∧ K (.tup [.int .i64 n, .int .i64 0]) [] []
def cReadWhole (xs : List SV) (σ : List (Option SB)) (K : KC) : Prop :=
  ∃ n : Int, (xs = [.str (bytesOf (wholeL n))] ∧ σ = [] ∧ -999999999999999999 ≤ n ∧ n ≤ 999999999999999999) ∧ K (.tup [.int .i64 n, .int .i64 0]) [] []
end Go.Se

/- Texts that are read: numbers, pieces, lines: plain. -/
namespace Go.Se

/-! ### Numbers -/
theorem digC_digit {a : Int} (h0 : 0 ≤ a) (h1 : a ≤ 255) : digC a > 9 ↔ ¬ (48 ≤ a ∧ a ≤ 57) := by
  unfold digC
  rw [show IntKind.u8.wrap (a - 48) = (a - 48) % 256 from rfl]
  omega
theorem numS_some : ∀ (l : List Int) (n : Int), inByte l → (numS n l).isSome = true → allD l
  | [], _, _, _ => fun x hx => by cases hx
  | a :: l, n, hb, h => by
    unfold numS at h
    have ha := hb a (List.mem_cons_self ..)
    cases hd : decide (digC a > 9) with
    | true => rw [hd] at h; cases h
    | false =>
      rw [hd] at h
      have hd := of_decide_eq_false hd
      rw [digC_digit ha.1 ha.2, Decidable.not_not] at hd
      intro x hx
      rcases List.mem_cons.1 hx with rfl | hx
      · exact hd
      · exact numS_some l _ (fun y hy => hb y (List.mem_cons_of_mem _ hy)) h x hx
theorem numB_digits {l : List Int} {m : Int} (hb : inByte l) (h : numB l m = true) : allD l := by
  unfold numB at h
  cases hg : numG l m with
  | true => rw [hg] at h; cases h
  | false => rw [hg] at h; exact numS_some l 0 hb h
theorem valD_lt : ∀ (l : List Int) (n : Int) (k : Nat), allD l → 0 ≤ n → n < 10 ^ k → 0 ≤ valD n l ∧ valD n l < 10 ^ (k + l.length)
  | [], n, k, _, h0, h1 => ⟨h0, h1⟩
  | a :: l, n, k, hd, h0, h1 => by
    have ha := hd a (List.mem_cons_self ..)
    have hp : (10 : Int) ^ (k + 1) = 10 ^ k * 10 := Int.pow_succ 10 k
    have := valD_lt l (10 * n + (a - 48)) (k + 1) (fun x hx => hd x (List.mem_cons_of_mem _ hx)) (by omega) (by omega)
    rw [List.length_cons, show k + (l.length + 1) = k + 1 + l.length by omega]
    exact this
theorem numN_range {l : List Int} {m : Int} (hb : inByte l) (hm : m ≤ 18) (h : numB l m = true) : numN l m = valD 0 l ∧ 0 ≤ numN l m ∧ numN l m < 10 ^ l.length := by
  have hd := numB_digits hb h
  have hl := numB_len h
  obtain ⟨_, h2⟩ := num_ok (most := m) hd hl.1 hl.2 (by omega)
  have h3 := valD_lt l 0 0 hd (by decide) (by decide)
  rw [Nat.zero_add] at h3
  rw [h2]
  exact ⟨rfl, h3⟩
theorem pow_mono {a b : Nat} (h : a ≤ b) : (10 : Int) ^ a ≤ 10 ^ b := by
  have := Nat.pow_le_pow_right (n := 10) (by decide) h
  exact_mod_cast this

/-- Which number a text is, and what is wrong with it. -/
def readOk (l : List Int) : Bool := bif numB (cutH 46 (minusL l)) 10 then (bif hasC 46 (minusL l) then restB (cutT 46 (minusL l)) else true) else false
def readF (l : List Int) : Int := bif hasC 46 (minusL l) then restN (cutT 46 (minusL l)) else 0
def readA (l : List Int) : Int := numN (cutH 46 (minusL l)) 10 * 4294967296 + divV (readF l * 4294967296) 10000000000
def readZ (l : List Int) : Int := bif minusB l then -readA l else readA l
def readE (l : List Int) : Int := bif readOk l then (bif in64 (readZ l) then 0 else 2) else 24
def readV (l : List Int) : Int := bif readOk l && in64 (readZ l) then readZ l else 0
def wholeE (l : List Int) : Int := bif numB (minusL l) 18 then 0 else 24
def wholeV (l : List Int) : Int := bif numB (minusL l) 18 then (bif minusB l then -numN (minusL l) 18 else numN (minusL l) 18) else 0

theorem minusL_inByte {l : List Int} (h : inByte l) : inByte (minusL l) := fun x hx => by
  unfold minusL at hx
  cases hm : minusB l with
  | true => rw [hm] at hx; exact h x (List.mem_of_mem_tail hx)
  | false => rw [hm] at hx; exact h x hx
theorem cutH_sub (c : Int) : ∀ (l : List Int) (x : Int), x ∈ cutH c l → x ∈ l
  | [], _, h => by cases h
  | a :: l, x, h => by
    unfold cutH at h
    cases ha : a == c with
    | true => rw [ha] at h; cases h
    | false =>
      rw [ha] at h
      rcases List.mem_cons.1 h with rfl | h
      · exact List.mem_cons_self ..
      · exact List.mem_cons_of_mem _ (cutH_sub c l x h)
theorem cutT_sub (c : Int) : ∀ (l : List Int) (x : Int), x ∈ cutT c l → x ∈ l
  | [], _, h => by cases h
  | a :: l, x, h => by
    unfold cutT at h
    cases ha : a == c with
    | true => rw [ha] at h; exact List.mem_cons_of_mem _ h
    | false => rw [ha] at h; exact List.mem_cons_of_mem _ (cutT_sub c l x h)
theorem cutH_inByte {c : Int} {l : List Int} (h : inByte l) : inByte (cutH c l) := fun x hx => h x (cutH_sub c l x hx)
theorem cutT_inByte {c : Int} {l : List Int} (h : inByte l) : inByte (cutT c l) := fun x hx => h x (cutT_sub c l x hx)
theorem rest_range {l : List Int} (hb : inByte l) : 0 ≤ restN l ∧ restN l < 10000000000 := by
  unfold restN
  cases h : numB l 10 with
  | false => simp
  | true =>
    have hd := numB_digits hb h
    have hl := numB_len h
    have hp : allD (padR l) := fun x hx => by
      unfold padR at hx
      rcases List.mem_append.1 hx with hx | hx
      · exact hd x hx
      · rw [List.eq_of_mem_replicate hx]; omega
    have hlen : (padR l).length = 10 := by unfold padR; rw [List.length_append, List.length_replicate]; omega
    have h2 := (num_ok (most := 10) hp (by omega) (by omega) (by omega)).2
    have h3 := valD_lt (padR l) 0 0 hp (by decide) (by decide)
    rw [hlen] at h3
    simp only [cond_true]
    rw [h2]
    exact ⟨h3.1, h3.2⟩
theorem frac_range {f : Int} (h0 : 0 ≤ f) (h1 : f < 10000000000) : 0 ≤ divV (f * 4294967296) 10000000000 ∧ divV (f * 4294967296) 10000000000 ≤ 4294967296 := by
  have hp : 0 ≤ f * 4294967296 := by omega
  have hr := rneQ_near _ hp
  have hn : divN (f * 4294967296) 10000000000 = rneQ (f * 4294967296) 10000000000 := by
    unfold divN
    rw [show absI (f * 4294967296) = f * 4294967296 by unfold absI; rw [decide_eq_false (show ¬ f * 4294967296 < 0 by omega)]; rfl, show absI 10000000000 = 10000000000 by decide,
      decide_eq_false (show ¬ f * 4294967296 < 0 by omega)]; rfl
  unfold divV divGood
  rw [hn, show ((10000000000 : Int) != 0 && in64 (rneQ (f * 4294967296) 10000000000)) = true by rw [(in64_iff _).2 (by omega)]; rfl]
  simp only [cond_true]
  omega
theorem readF_range {l : List Int} (hb : inByte l) : 0 ≤ readF l ∧ readF l < 10000000000 := by
  unfold readF
  cases hasC 46 (minusL l) with
  | false => simp
  | true => exact rest_range (cutT_inByte (minusL_inByte hb))
theorem readA_range {l : List Int} (hb : inByte l) (h : readOk l = true) : 0 ≤ readA l ∧ readA l ≤ 42949672960000000000 := by
  have hn : numB (cutH 46 (minusL l)) 10 = true := by
    unfold readOk at h
    cases hn : numB (cutH 46 (minusL l)) 10 with
    | true => rfl
    | false => rw [hn] at h; cases h
  obtain ⟨_, h1, h2⟩ := numN_range (cutH_inByte (minusL_inByte hb)) (by decide) hn
  have h3 := numB_len hn
  have h4 := pow_mono (show (cutH 46 (minusL l)).length ≤ 10 by omega)
  obtain ⟨f0, f1⟩ := readF_range hb
  obtain ⟨g0, g1⟩ := frac_range f0 f1
  unfold readA
  omega
theorem rdF_all {Z : Int} {K : KC} (h0 : -170141183460469231731687303715884105728 ≤ Z) (h1 : Z ≤ 170141183460469231731687303715884105727)
    (hK : K (.tup [.int .i64 (bif in64 Z then Z else 0), .int .i64 (bif in64 Z then 0 else 2)]) [] []) : rdF Z K := by
  unfold rdF
  have hd : ∀ x : Int, x.fdiv (2 ^ min (63 : Int).toNat IntKind.i64.bits) = x / 9223372036854775808 := fun x => by
    show x.fdiv 9223372036854775808 = _
    exact fdiv_pos _ (by decide)
  rw [hd]
  cases hz : in64 Z with
  | true =>
    rw [in64_iff] at hz
    have hw : IntKind.i64.wrap (Z % 18446744073709551616) = Z := by rw [wi64]; omega
    rw [hw]
    rw [(in64_iff Z).2 hz] at hK
    refine Br.of (fun c => ?_) fun _ => hK
    have := bne_iff_ne.1 c
    omega
  | false =>
    rw [hz] at hK
    rw [← Bool.not_eq_true, in64_iff] at hz
    refine Br.of (fun _ => hK) fun c => ?_
    rw [bne_eq_false_iff_eq, wi64] at c
    omega
theorem read_all {s : ByteArray} {K : KC} (hK : K (.tup [.int .i64 (readV (listOf s)), .int .i64 (readE (listOf s))]) [] []) : rdP s K := by
  have hb := list_inByte s
  generalize hl : listOf s = l at hK hb
  unfold rdP
  rw [hl]
  have hmb := minusL_inByte hb
  rw [lsB_eq hmb]
  show rdR _ _ _ _ _ _ _
  rw [lsB_eq (cutH_inByte hmb), lsB_eq (cutT_inByte hmb)]
  have hR := readA_range (l := l) hb
  have main : readOk l = true → rdW (minusB l) (numN (cutH 46 (minusL l)) 10) (readF l) K := by
    intro hok
    obtain ⟨r0, r1⟩ := hR hok
    obtain ⟨f0, f1⟩ := readF_range hb
    have hin : ∀ x : Int, -42949672960000000001 < x → x < 42949672960000000001 → in128 x = true := fun x a b => (in128_iff x).2 (by omega)
    unfold rdW
    rw [wv_wide]
    show Br _ _ _
    have hX : rdS (numN (cutH 46 (minusL l)) 10 * 4294967296) (divV (readF l * 4294967296) 10000000000) = readA l := by
      unfold rdS
      rw [wv_wide, wv_wide, hin _ (by unfold readA at r0; omega) (by unfold readA at r1; omega)]; rfl
    rw [hX]
    unfold readV readE readZ at hK
    rw [hok] at hK
    refine Br.of (fun c => ?_) fun c => ?_
    · rw [c] at hK
      have : rdM (readA l) = -readA l := by
        unfold rdM
        rw [wv_wide, hin _ (by omega) (by omega)]; rfl
      rw [this]
      exact rdF_all (by omega) (by omega) hK
    · rw [c] at hK
      exact rdF_all (by omega) (by omega) hK
  unfold rdR rdQ
  unfold readOk readF at main
  unfold readE readV readOk at hK
  refine Br.of (fun c => ?_) fun c => ?_
  · rw [c] at main hK
    refine Br.of (fun d => ?_) fun d => ?_
    · rw [d] at main hK
      refine Br.of (fun e => ?_) fun e => ?_
      · rw [Bool.not_eq_true'] at e
        rw [e] at hK; exact hK
      · rw [Bool.not_eq_false'] at e
        exact main e
    · rw [d] at main
      exact Br.of (fun e => by rw [c] at e; cases e) fun _ => main rfl
  · rw [c] at hK
    exact Br.of (fun _ => hK) fun e => by rw [c] at e; cases e

/-! ### Pieces, lines -/
def sepC (a : Int) : Bool := a == 32 || a == 9
def fldA : List Int → List Int → List (List Int)
  | w, [] => bif w.isEmpty then [] else [w]
  | w, a :: l => bif sepC a then (bif w.isEmpty then fldA [] l else w :: fldA [] l) else fldA (w ++ [a]) l
/-- A line's pieces. -/
def piecesL (l : List Int) : List (List Int) := fldA [] (cutH 35 l)
def splR (c : Int) : List Int → List Int → List (List Int)
  | w, [] => [w]
  | w, a :: l => bif a == c then w :: splR c [] l else splR c (w ++ [a]) l
def chopL : List Int → List Int
  | [] => []
  | [a] => bif a == 10 then [] else [a]
  | a :: l => a :: chopL l
def lnR : List Int → List Int → List (List Int)
  | w, [] => bif w.isEmpty then [] else [w]
  | w, a :: l => bif a == 10 then w :: lnR [] l else lnR (w ++ [a]) l
/-- A text's lines. -/
def linesL (l : List Int) : List (List Int) := lnR [] l
theorem spl_ln : ∀ (l w : List Int), l ≠ [] → splR 10 w (chopL l) = lnR w l
  | [], _, h => absurd rfl h
  | [a], w, _ => by
    unfold chopL lnR
    cases h : a == 10 with
    | true => rfl
    | false => simp only [cond_false]; unfold splR; rw [h]; show [w ++ [a]] = lnR (w ++ [a]) []; unfold lnR; cases w <;> rfl
  | a :: b :: l, w, _ => by
    have ih := fun w => spl_ln (b :: l) w (by simp)
    show splR 10 w (a :: chopL (b :: l)) = _
    unfold splR lnR
    rw [ih, ih]
theorem fldA_skip : ∀ (m w r : List Int), (∀ x, x ∈ m → sepC x = false) → fldA w (m ++ r) = fldA (w ++ m) r
  | [], w, r, _ => by simp
  | a :: m, w, r, h => by
    rw [List.cons_append]
    conv => lhs; unfold fldA
    rw [h a (List.mem_cons_self ..), cond_false, fldA_skip m (w ++ [a]) r fun x hx => h x (List.mem_cons_of_mem _ hx), List.append_assoc]; rfl
theorem splR_cut (c : Int) : ∀ (l w : List Int), splR c w l = bif hasC c l then (w ++ cutH c l) :: splR c [] (cutT c l) else [w ++ l]
  | [], w => by simp [splR, hasC]
  | a :: l, w => by
    have ih := splR_cut c l (w ++ [a])
    show (bif a == c then w :: splR c [] l else splR c (w ++ [a]) l) = bif (a == c || hasC c l) then (w ++ bif a == c then [] else a :: cutH c l) :: splR c [] (bif a == c then l else cutT c l) else [w ++ a :: l]
    cases h : a == c with
    | true => simp
    | false =>
      simp only [cond_false, Bool.false_or]
      rw [ih]
      cases hasC c l <;> simp
theorem splR_len (c : Int) : ∀ (l w : List Int), (splR c w l).length = l.countP (· == c) + 1
  | [], w => rfl
  | a :: l, w => by
    unfold splR
    cases h : a == c with
    | true => simp only [cond_true, List.length_cons, splR_len c l]; rw [List.countP_cons_of_pos (by simpa using h)]
    | false => simp only [cond_false, splR_len c l]; rw [List.countP_cons_of_neg (by simpa using h)]

/-! ### Runes -/
theorem dec_at {s : ByteArray} {p : Nat} (h : p < s.size) : (s.get! p).toNat = (s.data.getD p 0).toNat := by
  have h' : p < s.data.size := h
  show (s.data[p]!).toNat = _
  rw [getElem!_pos s.data p h', Array.getD_eq_getD_getElem?, Array.getElem?_eq_getElem h']; rfl
/-- A rune that is met in a walk over a text. -/
theorem dec_law (s : ByteArray) (p : Nat) (h : p < s.size) :
    1 ≤ (Utf8.decode s p).2 ∧ p + (Utf8.decode s p).2 ≤ s.size ∧
    ((s.data.getD p 0).toNat < 128 → Utf8.decode s p = ((s.data.getD p 0).toNat, 1)) ∧ (128 ≤ (s.data.getD p 0).toNat → 128 ≤ (Utf8.decode s p).1) ∧
    ∀ j, 0 < j → j < (Utf8.decode s p).2 → 128 ≤ (s.data.getD (p + j) 0).toNat := by
  have e0 : (s.get! (p + 0)).toNat = (s.data.getD p 0).toNat := dec_at h
  have eh : s[p]'h = s.data.getD p 0 := by
    rw [Array.getD_eq_getD_getElem?, Array.getElem?_eq_getElem (show p < s.data.size from h)]; rfl
  have hc : ∀ k, (decide (p + k < s.size) && ((s.get! (p + k)).toNat / 64 == 2)) = true → p + k < s.size ∧ 128 ≤ (s.data.getD (p + k) 0).toNat := by
    intro k hk
    simp only [Bool.and_eq_true, decide_eq_true_eq, beq_iff_eq] at hk
    have := dec_at hk.1
    exact ⟨hk.1, by omega⟩
  have key : ∀ c w, Utf8.decode s p = (c, w) → 1 ≤ w ∧ p + w ≤ s.size ∧ ∀ j, 0 < j → j < w → 128 ≤ (s.data.getD (p + j) 0).toNat := by
    intro c w hw
    unfold Utf8.decode at hw
    simp only at hw
    have one : ∀ c' : Nat, (c', 1) = (c, w) → 1 ≤ w ∧ p + w ≤ s.size ∧ ∀ j, 0 < j → j < w → 128 ≤ (s.data.getD (p + j) 0).toNat := by
      intro c' hh; cases hh; exact ⟨Nat.le_refl _, h, fun j h1 h2 => by omega⟩
    split at hw
    · exact one _ hw
    · split at hw
      · rename_i _ h2
        simp only [Bool.and_eq_true] at h2
        have a1 := hc 1 (by simpa using h2.2)
        split at hw
        · cases hw
          refine ⟨by omega, by omega, fun j j1 j2 => ?_⟩
          obtain rfl : j = 1 := by omega
          exact a1.2
        · exact one _ hw
      · split at hw
        · rename_i _ _ h2
          simp only [Bool.and_eq_true] at h2
          have a1 := hc 1 (by simpa using h2.1.2)
          have a2 := hc 2 (by simpa using h2.2)
          split at hw
          · cases hw
            refine ⟨by omega, by omega, fun j j1 j2 => ?_⟩
            have : j = 1 ∨ j = 2 := by omega
            rcases this with rfl | rfl
            · exact a1.2
            · exact a2.2
          · exact one _ hw
        · split at hw
          · rename_i _ _ _ h2
            simp only [Bool.and_eq_true] at h2
            have a1 := hc 1 (by simpa using h2.1.1.2)
            have a2 := hc 2 (by simpa using h2.1.2)
            have a3 := hc 3 (by simpa using h2.2)
            split at hw
            · cases hw
              refine ⟨by omega, by omega, fun j j1 j2 => ?_⟩
              have : j = 1 ∨ j = 2 ∨ j = 3 := by omega
              rcases this with rfl | rfl | rfl
              · exact a1.2
              · exact a2.2
              · exact a3.2
            · exact one _ hw
          · exact one _ hw
  obtain ⟨k1, k2, k3⟩ := key _ _ rfl
  refine ⟨k1, k2, fun ha => ?_, fun ha => ?_, k3⟩
  · have := decode_ascii s p h (by rw [eh]; exact ha)
    rw [this, eh]
  · exact (decode_high s p h (by rw [eh]; exact ha)).1
end Go.Se

/- A text that is read line by line: plain. -/
namespace Go.Se
def strC (x : List Int) : List SV := [.str (bytesOf x)]
abbrev strsG (p : List (List Int)) : Nat → List SV := listG strC [] p
def lineC (x : Int × List (List Int)) : List SV := [.int .i64 x.1, .ro x.2.length 1 (strsG x.2)]
abbrev qG (q : List (Int × List (List Int))) : Nat → List SV := listG lineC (0, []) q
/-- What is left of a book: lines with pieces; the number of the line that was taken last; the first error, and where. -/
structure Bk where
  q : List (Int × List (List Int))
  last : Int
  err : Int
  place : Int
def bkC (all : Int) (b : Bk) : List SV := [.ro b.q.length 2 (qG b.q), .int .i64 all, .int .i64 b.last, .int .i64 b.err, .int .i64 b.place]
/-- The lines with pieces, with their numbers. -/
def nbF : Int → List (List Int) → List (Int × List (List Int))
  | _, [] => []
  | k, t :: r => bif (piecesL t).isEmpty then nbF (k + 1) r else (k + 1, piecesL t) :: nbF (k + 1) r
def wfQ (q : List (Int × List (List Int))) : Prop := ∀ x, x ∈ q → x.2 ≠ []
theorem nbF_wf : ∀ (l : List (List Int)) (k : Int), wfQ (nbF k l)
  | [], _ => fun x hx => by cases hx
  | t :: r, k => fun x hx => by
    unfold nbF at hx
    cases h : (piecesL t).isEmpty with
    | true => rw [h] at hx; exact nbF_wf r (k + 1) x hx
    | false =>
      rw [h] at hx
      rcases List.mem_cons.1 hx with rfl | hx
      · intro e; simp only at e; rw [e] at h; cases h
      · exact nbF_wf r (k + 1) x hx
def openB (l : List Int) : Bk := ⟨nbF 0 (linesL l), 0, 0, 0⟩
def allB (l : List Int) : Int := (linesL l).length

def failB (b : Bk) (e at' : Int) : Bk := bif b.err == 0 && e != 0 then { b with err := e, place := at' } else b
def headQ (q : List (Int × List (List Int))) : Int × List (List Int) := q.getD 0 (0, [])
/-- Is the next line no line of such a word, with so many pieces? What is wrong with it. -/
def takeE (b : Bk) (w : ByteArray) (lo hi : Int) : Int :=
  bif b.q.isEmpty then 20 else bif !(bytesOf ((headQ b.q).2.getD 0 []) == w) then 21 else bif decide ((((headQ b.q).2.length : Int) - 1) < lo) || decide ((((headQ b.q).2.length : Int) - 1) > hi) then 22 else 0
def takeN (b : Bk) (w : ByteArray) (lo hi : Int) : Bool := b.err != 0 || takeE b w lo hi != 0
def takeB (all : Int) (b : Bk) (w : ByteArray) (lo hi : Int) : Bk :=
  bif b.err != 0 then b else bif takeE b w lo hi == 0 then { b with q := b.q.tail, last := (headQ b.q).1 } else { b with err := takeE b w lo hi, place := bif b.q.isEmpty then all + 1 else (headQ b.q).1 }
def takeL (b : Bk) : List (List Int) := (headQ b.q).2.tail
def nextV (b : Bk) (w : ByteArray) : Bool := b.err == 0 && (!b.q.isEmpty && (bytesOf ((headQ b.q).2.getD 0 []) == w))
def numV (b : Bk) (l : List Int) : Int := bif b.err == 0 then readV l else 0
def numBk (b : Bk) (l : List Int) : Bk := failB b (readE l) b.last
def intE (l : List Int) (lo hi : Int) : Int := bif wholeE l == 0 then (bif decide (wholeV l < lo) || decide (wholeV l > hi) then 40 else 0) else 24
def intV (b : Bk) (l : List Int) (lo hi : Int) : Int := bif b.err == 0 && intE l lo hi == 0 then wholeV l else 0
def intBk (b : Bk) (l : List Int) (lo hi : Int) : Bk := failB b (intE l lo hi) b.last
/-- Where a word stands among some; their number: nowhere. -/
def wordI (s : ByteArray) : List ByteArray → Nat
  | [] => 0
  | a :: l => bif a == s then 0 else wordI s l + 1
def oneE (s : ByteArray) (l : List ByteArray) : Int := bif decide (wordI s l < l.length) then 0 else 24
def oneV (b : Bk) (s : ByteArray) (l : List ByteArray) : Int := bif b.err == 0 && decide (wordI s l < l.length) then (wordI s l : Int) else 0
def oneBk (b : Bk) (s : ByteArray) (l : List ByteArray) : Bk := failB b (oneE s l) b.last
def oddBk (b : Bk) : Bk := failB b 22 b.last
def shapeBk (b : Bk) : Bk := failB b 42 b.last
def endE (b : Bk) : Int := bif b.err != 0 then b.err else bif b.q.isEmpty then 0 else 23
def endAt (b : Bk) : Int := bif b.err != 0 then b.place else bif b.q.isEmpty then b.place else (headQ b.q).1
def endBk (b : Bk) : Bk := bif b.q.isEmpty then b else failB b 23 (headQ b.q).1

/-- A row of texts. -/
def strR (X : Nat → ByteArray) : Nat → List SV := fun i => [.str (X i)]
def updX (i : Nat) (v : ByteArray) (X : Nat → ByteArray) : Nat → ByteArray := fun j => bif decide (j = i) then v else X j
theorem rowPut_strR (i : Nat) (v : ByteArray) (X : Nat → ByteArray) : rowPut i [.str v] (strR X) = strR (updX i v X) := by
  funext j; unfold rowPut strR updX; cases decide (j = i) <;> rfl
theorem strsG_tail (p : List (List Int)) : (fun i => strsG p (i + 1)) = strsG p.tail := by
  funext i; cases p <;> rfl
theorem qG_tail (q : List (Int × List (List Int))) : (fun i => qG q (i + 1)) = qG q.tail := by
  funext i; cases q <;> rfl
theorem headQ_cons (x : Int × List (List Int)) (q : List (Int × List (List Int))) : headQ (x :: q) = x := rfl

/-- The same book, as all lines and the next one's number. -/
def RB (L : List (List Int)) (pos : Nat) (b : Bk) : Prop := pos ≤ L.length ∧ b.q = nbF pos (L.drop pos)
def rbC (L : List (List Int)) (pos : Nat) (b : Bk) : List SV := [.ro L.length 1 (strsG L), .int .i64 pos, .int .i64 b.last, .int .i64 b.err, .int .i64 b.place]
theorem nbF_blank {L : List (List Int)} {pos : Nat} (h : pos < L.length) (hp : piecesL (L.getD pos []) = []) : nbF pos (L.drop pos) = nbF (pos + 1 : Nat) (L.drop (pos + 1)) := by
  rw [List.drop_eq_getElem_cons h]
  rw [List.getD_eq_getElem?_getD, List.getElem?_eq_getElem h] at hp
  conv => lhs; unfold nbF
  rw [show piecesL L[pos] = [] from hp]
  push_cast; rfl
theorem nbF_line {L : List (List Int)} {pos : Nat} (h : pos < L.length) (hp : piecesL (L.getD pos []) ≠ []) : nbF pos (L.drop pos) = ((pos : Int) + 1, piecesL (L.getD pos [])) :: nbF (pos + 1 : Nat) (L.drop (pos + 1)) := by
  rw [List.drop_eq_getElem_cons h]
  rw [List.getD_eq_getElem?_getD, List.getElem?_eq_getElem h] at hp ⊢
  conv => lhs; unfold nbF
  rw [show (piecesL L[pos]).isEmpty = false by cases hh : piecesL L[pos] with | nil => exact absurd hh hp | cons => rfl]
  push_cast; rfl
theorem nbF_end {L : List (List Int)} : nbF L.length (L.drop L.length) = [] := by rw [List.drop_length]; rfl
end Go.Se
namespace Go.Se
theorem cntB_bytes {l : List Int} (h : inByte l) {c : Int} (hc : 0 ≤ c) (hc' : c ≤ 255) : cntB (bytesOf l) c = l.countP (· == c) := by
  unfold cntB bytesOf
  simp only [List.countP_map]
  refine List.countP_congr fun x hx => ?_
  have := h x hx
  simp only [Function.comp, beq_iff_eq]
  rw [← UInt8.toNat_inj]
  simp only [UInt8.toNat_ofNat', Nat.toUInt8_eq]
  omega
theorem idx_has {l : List Int} (h : inByte l) {c : Int} (hc : 0 ≤ c) (hc' : c ≤ 255) : idxB (bytesOf l) c = bif hasC c l then ((cutH c l).length : Int) else -1 := by
  rw [idxB_bytes h hc hc', idxFrom_cut]
  cases hasC c l <;> simp
theorem cut_bytes_H {c : Int} (l : List Int) : (bytesOf l).extract 0 (cutH c l).length = bytesOf (cutH c l) := by
  rw [extract_bytes, List.drop_zero, Nat.sub_zero, cut_take]
theorem cut_bytes_T {c : Int} {l : List Int} (h : hasC c l = true) : (bytesOf l).extract ((cutH c l).length + 1) l.length = bytesOf (cutT c l) := by
  obtain ⟨h1, h2⟩ := cut_drop c l h
  rw [extract_bytes, h1, List.take_of_length_le]
  rw [← h1, List.length_drop]; exact Nat.le_refl _
theorem hasC_len {c : Int} {l : List Int} (h : hasC c l = true) : (cutH c l).length + 1 + (cutT c l).length = l.length := by
  have := congrArg List.length (cut_parts c l h)
  simp only [List.length_append, List.length_cons] at this
  omega
theorem drop_cons_iff {α : Type} {q : List α} {i : Nat} {x : α} {r : List α} (h : q.drop i = x :: r) : i < q.length ∧ (∀ d, q.getD i d = x) ∧ q.drop (i + 1) = r := by
  have hi : i < q.length := by
    refine Nat.not_le.1 fun hh => ?_
    rw [List.drop_of_length_le hh] at h; cases h
  rw [List.drop_eq_getElem_cons hi] at h
  cases h
  exact ⟨hi, fun d => by rw [List.getD_eq_getElem?_getD, List.getElem?_eq_getElem hi]; rfl, rfl⟩
theorem rowsEnd_some {α : Type} {e st : Nat} {f : α → List SV} {L : List α} {K : KC} (d : α) (h : rowsEnd e st f L K) : ∃ v σ' dd, K v σ' dd := by
  by_cases hL : L = []
  · exact ⟨_, _, _, h.1 hL⟩
  · exact ⟨_, _, _, h.2 (listG f d L) hL fun j hj => listG_at hj⟩
end Go.Se
namespace Go.Se
theorem chop_eq : ∀ l : List Int, chopL l = bif l.drop (l.length - 1) == [10] then l.take (l.length - 1) else l
  | [] => rfl
  | [a] => by
    show (bif a == 10 then [] else [a]) = bif ([a] : List Int) == [10] then [] else [a]
    rw [show (([a] : List Int) == [10]) = (a == 10) by simp [Bool.and_true]]
  | a :: b :: l => by
    have ih := chop_eq (b :: l)
    show a :: chopL (b :: l) = _
    rw [ih]
    show _ = bif (b :: l).drop ((b :: l).length - 1) == [10] then a :: (b :: l).take ((b :: l).length - 1) else a :: b :: l
    cases (b :: l).drop ((b :: l).length - 1) == [10] <;> rfl
theorem chop_law {s : ByteArray} {K : KC} (hs : s.size < 9223372036854775808) (hK : K (.str (bytesOf (chopL (listOf s)))) [] []) :
    (Br (decide ((↑s.size : Int) ≥ 1)) (Br (decide (0 ≤ IntKind.i64.wrap ((↑s.size : Int) - 1)) && (decide (IntKind.i64.wrap ((↑s.size : Int) - 1) ≤ (↑s.size : Int)) && decide ((↑s.size : Int) ≤ (↑s.size : Int)))) (Br (s.extract (IntKind.i64.wrap ((↑s.size : Int) - (↑(⟨#[10]⟩ : ByteArray).size : Int))).toNat (↑s.size : Int).toNat == (⟨#[10]⟩ : ByteArray)) (Br (true && (decide (0 ≤ IntKind.i64.wrap ((↑s.size : Int) - 1)) && decide (IntKind.i64.wrap ((↑s.size : Int) - 1) ≤ (↑s.size : Int)))) (K (SV.str (s.extract 0 (IntKind.i64.wrap ((↑s.size : Int) - 1)).toNat)) [] []) (False)) (K (SV.str s) [] [])) (False)) (K (SV.str s) [] [])) := by
  have hb := list_inByte s
  have hl := list_length s
  rw [chop_eq] at hK
  generalize hm : listOf s = l at hK hb hl
  have hsl : s = bytesOf l := by rw [← hm, bytes_list]
  have hz : ((⟨#[10]⟩ : ByteArray).size : Int) = 1 := rfl
  rw [hz]
  refine Br.of (fun c => ?_) fun c => ?_
  · have c := of_decide_eq_true c
    have hw : IntKind.i64.wrap ((s.size : Int) - 1) = ((s.size - 1 : Nat) : Int) := by rw [wi64]; omega
    simp only [hw, Int.toNat_natCast]
    refine Br.of (fun _ => ?_) fun e => absurd e (by simp)
    have e1 : (s.extract (s.size - 1) s.size == (⟨#[10]⟩ : ByteArray)) = (l.drop (l.length - 1) == [10]) := by
      rw [hl, hsl, bytes_size, extract_bytes, show (⟨#[10]⟩ : ByteArray) = bytesOf [10] from rfl,
        beq_bytes (fun x hx => hb x (List.mem_of_mem_drop (List.mem_of_mem_take hx))) (fun x hx => by simp at hx; omega), List.take_of_length_le (by rw [List.length_drop]; exact Nat.le_refl _)]
      rw [Bool.eq_iff_iff]; simp
    rw [e1]
    refine Br.of (fun d => Br.of (fun _ => ?_) fun e => absurd e (by simp)) fun d => ?_
    · rw [d] at hK
      rw [hsl, bytes_size, extract_bytes, List.drop_zero, Nat.sub_zero]
      exact hK
    · rw [d] at hK; rw [hsl]; exact hK
  · have c := of_decide_eq_false c
    have : l = [] := List.eq_nil_of_length_eq_zero (by omega)
    subst this
    rw [hsl]; exact hK
end Go.Se
namespace Go.Se
theorem extract_nat (l : List Int) (i j : Nat) : (bytesOf l).extract ((i : Nat) : Int).toNat ((j : Nat) : Int).toNat = bytesOf ((l.drop i).take (j - i)) := by
  rw [Int.toNat_natCast, Int.toNat_natCast, extract_bytes]
theorem index_nat {l : List Int} (h : inByte l) (i : Nat) : (((bytesOf l).data.getD ((i : Nat) : Int).toNat 0).toNat : Int) = l.getD i 0 := by
  rw [Int.toNat_natCast, index_bytes h]
theorem beq_int {a b : Nat} : ((a : Int) == (b : Int)) = true ↔ a = b := by rw [beq_iff_eq]; omega
theorem beq_intF {a b : Nat} : ((a : Int) == (b : Int)) = false ↔ a ≠ b := by rw [← Bool.not_eq_true, beq_int]
theorem bnd_t {i j n : Nat} (h1 : i ≤ j) (h2 : j ≤ n) {P : Prop} (h : (decide (0 ≤ (i : Int)) && (decide ((i : Int) ≤ (j : Int)) && decide ((j : Int) ≤ (n : Int)))) = false) : P := by
  simp only [Bool.and_eq_false_iff, decide_eq_false_iff_not] at h; omega
theorem lim_f {m : Nat} (h : m ≤ 1099511627) {P : Prop} (c : (decide ((m + 1) * 16 ≤ 1099511627776) && decide (m + 1 < 9223372036854775808) && decide (m = m)) = false) : P := by
  rw [Bool.and_eq_false_iff, Bool.and_eq_false_iff] at c
  rcases c with (c | c) | c
  · have := of_decide_eq_false c; omega
  · have := of_decide_eq_false c; omega
  · exact absurd rfl (of_decide_eq_false c)
theorem lim_g {m : Nat} (h : m ≤ 1099511627) {P : Prop} (c : (decide ((m + 1) * 16 ≤ 1099511627776) && decide (m + 1 < 9223372036854775808) && decide True) = false) : P :=
  lim_f h (by rw [show decide (m = m) = decide True by simp]; exact c)
theorem lnR_len : ∀ (l w : List Int), (lnR w l).length ≤ l.length + 1
  | [], w => by unfold lnR; cases w.isEmpty <;> simp
  | a :: l, w => by
    unfold lnR
    cases a == 10
    · simp only [cond_false, List.length_cons]; have := lnR_len l (w ++ [a]); omega
    · simp only [cond_true, List.length_cons]; have := lnR_len l []; omega
theorem drop_getD {l : List Int} {i : Nat} (h : i < l.length) : l.drop i = l.getD i 0 :: l.drop (i + 1) := by
  rw [List.drop_eq_getElem_cons h, List.getD_eq_getElem?_getD, List.getElem?_eq_getElem h]; rfl
theorem take_succ {l : List Int} {j i : Nat} (hj : j ≤ i) (h : i < l.length) : (l.drop j).take (i - j) ++ [l.getD i 0] = (l.drop j).take (i + 1 - j) := by
  rw [show i + 1 - j = (i - j) + 1 by omega, List.take_add_one, List.getElem?_drop, show j + (i - j) = i by omega, List.getElem?_eq_getElem h, List.getD_eq_getElem?_getD, List.getElem?_eq_getElem h]; rfl
end Go.Se
namespace Go.Se
theorem cut_law35 {l : List Int} {K : KC} (hb : inByte l) (hl : l.length < 9223372036854775808) (hK : K (.tup [.str (bytesOf (cutH 35 l)), .str (bytesOf (cutT 35 l)), .bool (hasC 35 l)]) [] []) :
    Br ((⟨#[35]⟩ : ByteArray) == bytesOf l) (If (true && (decide ((1 : Int) ≤ ((bytesOf l).size : Int)) && decide (((bytesOf l).size : Int) ≤ ((bytesOf l).size : Int)))) (K (.tup [.str ((bytesOf l).extract 0 0), .str ((bytesOf l).extract 1 ((bytesOf l).size : Int).toNat), .bool true]) [] []))
      (Br (decide (idxB (bytesOf l) 35 ≥ 0)) (If (true && (decide ((0 : Int) ≤ idxB (bytesOf l) 35) && decide (idxB (bytesOf l) 35 ≤ ((bytesOf l).size : Int))))
        (If (decide (0 ≤ IntKind.i64.wrap (idxB (bytesOf l) 35 + 1)) && (decide (IntKind.i64.wrap (idxB (bytesOf l) 35 + 1) ≤ ((bytesOf l).size : Int)) && decide (((bytesOf l).size : Int) ≤ ((bytesOf l).size : Int))))
          (K (.tup [.str ((bytesOf l).extract 0 (idxB (bytesOf l) 35).toNat), .str ((bytesOf l).extract (IntKind.i64.wrap (idxB (bytesOf l) 35 + 1)).toNat ((bytesOf l).size : Int).toNat), .bool true]) [] [])))
        (K (.tup [.str (bytesOf l), .str ⟨#[]⟩, .bool false]) [] [])) := by
  rw [idxB_bytes hb (by decide) (by decide), idxFrom_cut, bytes_size]
  refine Br.of (fun c => ?_) fun _ => ?_
  · have hl1 : l = [35] := by
      rw [ba_beq, beq_iff_eq] at c
      have c : bytesOf [35] = bytesOf l := ByteArray.ext c
      have := congrArg listOf c
      rw [list_bytes hb, list_bytes (fun x hx => by rcases List.mem_singleton.1 hx with rfl; omega)] at this
      exact this.symm
    subst hl1
    exact If.mk rfl hK
  · cases hh : hasC 35 l with
    | false =>
      rw [hh, cutH_none _ _ hh, cutT_none _ _ hh] at hK
      refine Br.of (fun c => ?_) fun _ => hK
      have := of_decide_eq_true c
      simp at this
    | true =>
      obtain ⟨h1, h2⟩ := cut_drop 35 l hh
      have h3 := cut_take 35 l
      rw [hh] at hK
      simp only [cond_true, Nat.zero_add]
      have hw : IntKind.i64.wrap ((((cutH 35 l).length : Nat) : Int) + 1) = (((cutH 35 l).length + 1 : Nat) : Int) := by rw [wi64]; omega
      rw [hw, extract_bytes, extract_bytes]
      simp only [Int.toNat_natCast, List.drop_zero, Nat.sub_zero]
      rw [h3, h1, show (cutT 35 l).take (l.length - ((cutH 35 l).length + 1)) = cutT 35 l by rw [← h1, ← List.length_drop, List.take_length]]
      refine Br.of (fun _ => If.mk ?_ (If.mk ?_ hK)) fun c => ?_
      · simp only [Bool.true_and, Bool.and_eq_true, decide_eq_true_eq]; omega
      · simp only [Bool.and_eq_true, decide_eq_true_eq]; omega
      · have := of_decide_eq_false c
        omega
def spC (x : Int × Int) : List SV := [.int .i64 x.1, .int .i64 x.2]
abbrev spG (S : List (Int × Int)) : Nat → List SV := listG spC (0, 0) S
theorem listG_push {α : Type} {f : α → List SV} {d x : α} {L : List α} : rowPut L.length (f x) (listG f d L) = listG f d (L ++ [x]) := by
  funext i
  unfold rowPut listG
  by_cases h : i = L.length
  · rw [decide_eq_true h, h]; simp
  · rw [decide_eq_false h]
    by_cases h2 : i < L.length
    · simp [List.getElem?_append_left h2]
    · simp [List.getElem?_append_right (Nat.not_lt.1 h2), List.getElem?_eq_none (Nat.not_lt.1 h2), List.getElem?_eq_none (show [x].length ≤ i - L.length by simp; omega)]
end Go.Se
namespace Go.Se
theorem fldA_cons (w : List Int) (a : Int) (l : List Int) : fldA w (a :: l) = bif sepC a then (bif w.isEmpty then fldA [] l else w :: fldA [] l) else fldA (w ++ [a]) l := rfl
theorem fldA_nil (w : List Int) : fldA w [] = bif w.isEmpty then [] else [w] := rfl
theorem getD_mm {α : Type} {L : List α} {i : Nat} {d : α} (h : i < L.length) : L.getD i d ∈ L := by
  rw [List.getD_eq_getElem?_getD, List.getElem?_eq_getElem h]; exact List.getElem_mem h
theorem list_getD (s : ByteArray) (i : Nat) : (listOf s).getD i 0 = ((s.data.getD i 0).toNat : Int) := by
  have := index_bytes (list_inByte s) i
  rw [bytes_list] at this
  exact this.symm
theorem not_i64 {st : Int} (h0 : 0 ≤ st) (h1 : st < 9223372036854775808) : IntKind.i64.wrap (((BitVec.ofInt IntKind.i64.bits (if IntKind.i64.signed = true then -1 else IntKind.i64.max) ^^^ BitVec.ofInt IntKind.i64.bits st).toNat : Nat) : Int) = -1 - st := by
  have e : (if IntKind.i64.signed = true then (-1 : Int) else IntKind.i64.max) = -1 := rfl
  rw [e]
  have h2 : (BitVec.ofInt 64 (-1) : BitVec 64) = BitVec.allOnes 64 := by decide
  show IntKind.i64.wrap (((BitVec.ofInt 64 (-1) ^^^ BitVec.ofInt 64 st).toNat : Nat) : Int) = _
  rw [h2, BitVec.allOnes_xor, BitVec.toNat_not, BitVec.toNat_ofInt, wi64]
  omega
def extL (l : List Int) (x : Int × Int) : List Int := (l.drop x.1.toNat).take (x.2.toNat - x.1.toNat)
def wAt (l : List Int) (st : Int) (pos : Nat) : List Int := bif decide (st < 0) then [] else (l.drop st.toNat).take (pos - st.toNat)
structure ffI (l : List Int) (S : List (Int × Int)) (st : Int) (pos : Nat) : Prop where
  le : pos ≤ l.length
  len : S.length ≤ pos
  st1 : 0 ≤ st → st < pos
  ok : ∀ x, x ∈ S → 0 ≤ x.1 ∧ x.1 ≤ x.2 ∧ x.2 ≤ (l.length : Int)
  eq : S.map (extL l) ++ fldA (wAt l st pos) (l.drop pos) = fldA [] l
theorem ffI_ok {l : List Int} {S : List (Int × Int)} {a b : Int} (h : ∀ x, x ∈ S → 0 ≤ x.1 ∧ x.1 ≤ x.2 ∧ x.2 ≤ (l.length : Int)) (h1 : 0 ≤ a) (h2 : a ≤ b) (h3 : b ≤ (l.length : Int)) :
    ∀ x, x ∈ S ++ [(a, b)] → 0 ≤ x.1 ∧ x.1 ≤ x.2 ∧ x.2 ≤ (l.length : Int) := fun x hx => by
  rcases List.mem_append.1 hx with hx | hx
  · exact h x hx
  · obtain rfl := List.mem_singleton.1 hx; exact ⟨h1, h2, h3⟩
theorem wAt_pos {l : List Int} {st : Int} {pos : Nat} (h : 0 ≤ st) : wAt l st pos = extL l (st, pos) := by
  unfold wAt extL; rw [decide_eq_false (by omega)]; simp
theorem wAt_ne {l : List Int} {st : Int} {pos : Nat} (h : 0 ≤ st) (h1 : st < pos) (h2 : pos ≤ l.length) : (wAt l st pos).isEmpty = false := by
  unfold wAt; rw [decide_eq_false (by omega)]
  rw [Bool.eq_false_iff]; intro e
  have := congrArg List.length (List.isEmpty_iff.1 e)
  simp only [cond_false, List.length_take, List.length_drop, List.length_nil] at this
  omega
theorem ff_sep1 {l : List Int} {S : List (Int × Int)} {st : Int} {pos : Nat} (h : ffI l S st pos) (hp : pos < l.length) (hs : sepC (l.getD pos 0) = true) (h0 : 0 ≤ st) : ffI l (S ++ [(st, (pos : Int))]) (-1 - st) (pos + 1) := by
  have h1 := h.st1 h0
  refine ⟨hp, by have := h.len; simp; omega, fun hh => by omega, ffI_ok h.ok h0 (by omega) (by omega), ?_⟩
  have he := h.eq
  rw [drop_getD hp] at he
  rw [fldA_cons, hs, wAt_ne h0 h1 h.le, wAt_pos h0] at he
  rw [List.map_append, List.append_assoc, show wAt l (-1 - st) (pos + 1) = [] by unfold wAt; rw [decide_eq_true (by omega)]; rfl]
  exact he
theorem ff_sep2 {l : List Int} {S : List (Int × Int)} {st : Int} {pos : Nat} (h : ffI l S st pos) (hp : pos < l.length) (hs : sepC (l.getD pos 0) = true) (h0 : st < 0) : ffI l S st (pos + 1) := by
  refine ⟨hp, by have := h.len; omega, fun hh => by omega, h.ok, ?_⟩
  have he := h.eq
  have hw : ∀ p, wAt l st p = [] := fun p => by unfold wAt; rw [decide_eq_true h0]; rfl
  rw [drop_getD hp, hw] at he
  rw [fldA_cons, hs] at he
  rw [hw]; exact he
theorem ff_word {l : List Int} {S : List (Int × Int)} {st : Int} {pos w : Nat} (h : ffI l S st pos) (hw : 1 ≤ w) (hp : pos + w ≤ l.length) (hs : ∀ j, j < w → sepC (l.getD (pos + j) 0) = false) :
    ffI l S (bif decide (st < 0) then (pos : Int) else st) (pos + w) := by
  have hm : ∀ x, x ∈ (l.drop pos).take w → sepC x = false := fun x hx => by
    obtain ⟨j, hj, rfl⟩ := List.getElem_of_mem hx
    rw [List.length_take, List.length_drop] at hj
    have := hs j (by omega)
    rw [List.getD_eq_getElem?_getD, List.getElem?_eq_getElem (show pos + j < l.length by omega)] at this
    rw [List.getElem_take, List.getElem_drop]
    exact this
  have he := h.eq
  have hd : l.drop pos = (l.drop pos).take w ++ l.drop (pos + w) := by rw [← List.drop_drop, List.take_append_drop]
  rw [hd, fldA_skip _ _ _ hm] at he
  refine ⟨hp, by have := h.len; omega, fun hh => ?_, h.ok, ?_⟩
  · cases hd : decide (st < 0) with
    | true => simp only [cond_true]; omega
    | false => have := of_decide_eq_false hd; have := h.st1 (by omega); simp only [cond_false]; omega
  · rw [← he]
    congr 2
    unfold wAt
    cases hd : decide (st < 0) with
    | true => simp only [cond_true]; rw [decide_eq_false (by omega)]; simp [Nat.add_sub_cancel_left]
    | false =>
      have h0 := of_decide_eq_false hd
      have h1 := h.st1 (by omega)
      simp only [cond_false]
      rw [hd]
      simp only [cond_false]
      obtain ⟨k, rfl⟩ : ∃ k : Nat, st = (k : Int) := ⟨st.toNat, by omega⟩
      rw [Int.toNat_natCast, show pos + w - k = (pos - k) + w by omega, List.take_add, List.drop_drop, show k + (pos - k) = pos by omega]
theorem ff_end1 {l : List Int} {S : List (Int × Int)} {st : Int} {pos : Nat} (h : ffI l S st pos) (hp : l.length ≤ pos) (h0 : 0 ≤ st) :
    (S ++ [(st, (l.length : Int))]).map (extL l) = fldA [] l ∧ ∀ x, x ∈ S ++ [(st, (l.length : Int))] → 0 ≤ x.1 ∧ x.1 ≤ x.2 ∧ x.2 ≤ (l.length : Int) := by
  have hpos : pos = l.length := by have := h.le; omega
  subst hpos
  have h1 := h.st1 h0
  have he := h.eq
  rw [List.drop_length] at he
  rw [fldA_nil, wAt_ne h0 h1 (Nat.le_refl _), wAt_pos h0] at he
  exact ⟨by rw [List.map_append]; exact he, ffI_ok h.ok h0 (by omega) (by omega)⟩
theorem ff_end2 {l : List Int} {S : List (Int × Int)} {st : Int} {pos : Nat} (h : ffI l S st pos) (hp : l.length ≤ pos) (h0 : st < 0) : S.map (extL l) = fldA [] l := by
  have hpos : pos = l.length := by have := h.le; omega
  subst hpos
  have he := h.eq
  rw [List.drop_length, show wAt l st l.length = [] by unfold wAt; rw [decide_eq_true h0]; rfl] at he
  have he : S.map (extL l) ++ [] = fldA [] l := he
  rw [List.append_nil] at he
  exact he
/-- What a rune says of the bytes that it is made of. -/
theorem rune_sep {s : ByteArray} {p : Nat} (h : p < s.size) (hs : (((Utf8.decode s p).1 : Nat) : Int) = 32 ∨ (((Utf8.decode s p).1 : Nat) : Int) = 9) : sepC ((listOf s).getD p 0) = true ∧ (Utf8.decode s p).2 = 1 := by
  obtain ⟨d1, d2, d3, d4, d5⟩ := dec_law s p h
  rw [list_getD]
  by_cases ha : (s.data.getD p 0).toNat < 128
  · rw [d3 ha] at hs ⊢
    refine ⟨?_, rfl⟩
    unfold sepC
    rcases hs with hs | hs <;> (simp only at hs; rw [hs]; rfl)
  · have := d4 (by omega); omega
theorem rune_word {s : ByteArray} {p : Nat} (h : p < s.size) (h1 : (((Utf8.decode s p).1 : Nat) : Int) ≠ 32) (h2 : (((Utf8.decode s p).1 : Nat) : Int) ≠ 9) : ∀ j, j < (Utf8.decode s p).2 → sepC ((listOf s).getD (p + j) 0) = false := by
  obtain ⟨d1, d2, d3, d4, d5⟩ := dec_law s p h
  intro j hj
  rw [list_getD]
  unfold sepC
  rw [Bool.or_eq_false_iff, beq_eq_false_iff_ne, beq_eq_false_iff_ne]
  by_cases h0 : j = 0
  · subst h0
    rw [Nat.add_zero]
    by_cases ha : (s.data.getD p 0).toNat < 128
    · rw [d3 ha] at h1 h2; exact ⟨h1, h2⟩
    · omega
  · have := d5 j (by omega) hj; omega
end Go.Se
namespace Go.Se
theorem nvD_pos {f : Int} (h0 : 0 ≤ f) (h1 : f < 10000000000) : nvD (decide (f * 4294967296 < 0)) (absI (f * 4294967296)) = f * 4294967296 := by
  have ha : absI (f * 4294967296) = f * 4294967296 := by unfold absI; rw [decide_eq_false (show ¬ f * 4294967296 < 0 by omega)]; rfl
  rw [ha, nvD_eq (by omega) (by omega), decide_eq_false (show ¬ f * 4294967296 < 0 by omega)]; rfl
/-- Noughts behind a fraction's digits. -/
theorem numS_cons (n a : Int) (l : List Int) : numS n (a :: l) = bif decide (digC a > 9) then none else numS (IntKind.i64.wrap (IntKind.i64.wrap (10 * n) + IntKind.i64.wrap (digC a))) l := rfl
theorem head_minus {s : ByteArray} (h : 0 < s.size) : ((((s.data.getD (Int.toNat 0) 0).toNat : Nat) : Int) == 45) = minusB (listOf s) := by
  have hl := list_length s
  have := list_getD s 0
  show ((((s.data.getD 0 0).toNat : Nat) : Int) == 45) = _
  rw [← this]
  cases hh : listOf s with
  | nil => rw [hh] at hl; simp at hl; omega
  | cons a l => rfl
theorem minus_cutL {l : List Int} (h : minusB l = true) : (bytesOf l).extract 1 l.length = bytesOf (minusL l) := by
  unfold minusL
  rw [h, extract_bytes]
  cases l with
  | nil => rfl
  | cons a l => simp
theorem minus_cut {s : ByteArray} (h : minusB (listOf s) = true) : s.extract 1 s.size = bytesOf (minusL (listOf s)) := by
  have := minus_cutL h
  rw [bytes_list, list_length] at this
  exact this
theorem minus_no {s : ByteArray} (h : minusB (listOf s) = false) : minusL (listOf s) = listOf s := by unfold minusL; rw [h]; rfl
theorem minus_nil {s : ByteArray} (h : ¬ 0 < s.size) : minusB (listOf s) = false := by
  have hl := list_length s
  have : listOf s = [] := List.eq_nil_of_length_eq_zero (by omega)
  rw [this]; rfl
end Go.Se
namespace Go.Se
theorem valD_noughts : ∀ (k : Nat) (x : Int), valD x (List.replicate k 48) = x * 10 ^ k
  | 0, x => by simp [valD]
  | k + 1, x => by
    rw [List.replicate_succ]
    show valD (10 * x + (48 - 48)) (List.replicate k 48) = _
    rw [valD_noughts k, Int.pow_succ, show 10 * x + (48 - 48) = x * 10 by omega, Int.mul_assoc, Int.mul_comm 10]
theorem rest_val {l : List Int} (hb : inByte l) (h : numB l 10 = true) : restB l = true ∧ restN l = numN l 10 * 10 ^ (10 - l.length) := by
  have hd := numB_digits hb h
  have hl := numB_len h
  have hp : allD (padR l) := fun x hx => by
    unfold padR at hx
    rcases List.mem_append.1 hx with hx | hx
    · exact hd x hx
    · rw [List.eq_of_mem_replicate hx]; omega
  have hlen : (padR l).length = 10 := by unfold padR; rw [List.length_append, List.length_replicate]; omega
  obtain ⟨h1, h2⟩ := num_ok (most := 10) hp (by omega) (by omega) (by omega)
  obtain ⟨_, h3⟩ := num_ok (most := 10) hd hl.1 hl.2 (by omega)
  unfold restB restN
  rw [h, h1, h2, h3]
  refine ⟨rfl, ?_⟩
  simp only [cond_true]
  unfold padR
  rw [valD_append, valD_noughts]
theorem restB_no {l : List Int} (h : numB l 10 = false) : restB l = false := by unfold restB; rw [h]; rfl
theorem cutH_step {c : Int} {l : List Int} {i : Nat} (h : i < l.length) (hc : l.getD i 0 ≠ c) : cutH c (l.drop i) = l.getD i 0 :: cutH c (l.drop (i + 1)) ∧ hasC c (l.drop i) = hasC c (l.drop (i + 1)) := by
  rw [drop_getD h]
  have e : (l.getD i 0 == c) = false := by rw [beq_eq_false_iff_ne]; exact hc
  constructor
  · conv => lhs; unfold cutH
    rw [e]; rfl
  · conv => lhs; unfold hasC
    rw [e]; rfl
theorem cutH_stop {c : Int} {l : List Int} {i : Nat} (h : l.length ≤ i ∨ l.getD i 0 = c) : cutH c (l.drop i) = [] := by
  by_cases hi : i < l.length
  · rcases h with h | h
    · omega
    · rw [drop_getD hi]
      conv => lhs; unfold cutH
      rw [h]; simp
  · rw [List.drop_of_length_le (by omega)]; rfl
theorem pow10_small {k : Nat} (h : k ≤ 10) : (1 : Int) ≤ 10 ^ k ∧ (10 : Int) ^ k ≤ 10000000000 := ⟨ten_pos k, pow_mono h⟩
end Go.Se
namespace Go.Se
theorem tk_err {b : Bk} {w : ByteArray} {lo hi all : Int} (h : (b.err == 0) = false) : takeN b w lo hi = true ∧ takeB all b w lo hi = b := by
  unfold takeN takeB
  rw [show (b.err != 0) = true by rw [bne, h]; rfl]
  exact ⟨rfl, rfl⟩
theorem tk_bad {b : Bk} {w : ByteArray} {lo hi all e : Int} (h : (b.err == 0) = true) (hT : takeE b w lo hi = e) (he : e ≠ 0) :
    takeN b w lo hi = true ∧ takeB all b w lo hi = ⟨b.q, b.last, e, bif b.q.isEmpty then all + 1 else (headQ b.q).1⟩ := by
  unfold takeN takeB
  rw [show (b.err != 0) = false by rw [bne, h]; rfl, hT, show (e == 0) = false by rw [beq_eq_false_iff_ne]; exact he]
  exact ⟨by simp [he], rfl⟩
theorem tk_ok {b : Bk} {w : ByteArray} {lo hi all : Int} (h : (b.err == 0) = true) (hT : takeE b w lo hi = 0) :
    takeN b w lo hi = false ∧ takeB all b w lo hi = ⟨b.q.tail, (headQ b.q).1, b.err, b.place⟩ := by
  unfold takeN takeB
  rw [show (b.err != 0) = false by rw [bne, h]; rfl, hT]
  exact ⟨rfl, rfl⟩
theorem fail_no {b : Bk} {e a : Int} (h : (b.err == 0) = false) : failB b e a = b := by unfold failB; rw [h]; rfl
theorem fail_ok {b : Bk} {a : Int} : failB b 0 a = b := by unfold failB; rw [show ((0 : Int) != 0) = false from rfl, Bool.and_false]; rfl
theorem fail_yes {b : Bk} {e a : Int} (h : (b.err == 0) = true) (he : e ≠ 0) : failB b e a = ⟨b.q, b.last, e, a⟩ := by
  unfold failB; rw [h, show (e != 0) = true by simp [he]]; rfl
/-- A book within bounds. -/
structure okBk (b : Bk) : Prop where
  wf : wfQ b.q
  len : ∀ x, x ∈ b.q → x.2.length ≤ 1048577
  all : b.q.length ≤ 1048577
theorem okBk.tail {b : Bk} {l e p : Int} (h : okBk b) : okBk ⟨b.q.tail, l, e, p⟩ :=
  ⟨fun x hx => h.wf x (List.mem_of_mem_tail hx), fun x hx => h.len x (List.mem_of_mem_tail hx), by have := h.all; simp only [List.length_tail]; omega⟩
theorem okBk.same {b : Bk} {l e p : Int} (h : okBk b) : okBk ⟨b.q, l, e, p⟩ := ⟨h.wf, h.len, h.all⟩
theorem okBk.take {b : Bk} {w : ByteArray} {lo hi all : Int} (h : okBk b) : okBk (takeB all b w lo hi) := by
  unfold takeB
  cases b.err != 0
  · cases takeE b w lo hi == 0
    · exact h.same
    · exact h.tail
  · exact h
theorem okBk.head {b : Bk} (h : okBk b) (hq : b.q ≠ []) : 0 < (headQ b.q).2.length ∧ (headQ b.q).2.length ≤ 1048577 := by
  obtain ⟨q, _, _, _⟩ := b
  cases q with
  | nil => exact absurd rfl hq
  | cons x r =>
    have h1 := h.wf x (List.mem_cons_self ..)
    exact ⟨List.length_pos_iff.2 h1, h.len x (List.mem_cons_self ..)⟩
theorem isEmpty_len {α : Type} (q : List α) : ((q.length : Int) == 0) = q.isEmpty := by
  cases q
  · rfl
  · rw [List.isEmpty_cons, beq_eq_false_iff_ne]; simp; omega
end Go.Se
namespace Go.Se
/-- Lines of bytes, not too long. -/
structure okLn (L : List (List Int)) : Prop where
  len : L.length ≤ 1048577
  ok : ∀ x, x ∈ L → inByte x ∧ x.length ≤ 1048576
theorem fldA_len : ∀ (l w : List Int), (fldA w l).length ≤ l.length + 1
  | [], w => by rw [fldA_nil]; cases w.isEmpty <;> simp
  | a :: l, w => by
    rw [fldA_cons]
    have h1 := fldA_len l []
    have h2 := fldA_len l (w ++ [a])
    cases sepC a
    · simp only [cond_false, List.length_cons]; omega
    · cases w.isEmpty
      · simp only [cond_true, cond_false, List.length_cons]; omega
      · simp only [cond_true, List.length_cons]; omega
theorem pieces_len (l : List Int) : (piecesL l).length ≤ l.length + 1 := by
  have h1 := fldA_len (cutH 35 l) []
  have h2 : (cutH 35 l).length ≤ l.length := by rw [← cut_take, List.length_take]; exact Nat.min_le_right _ _
  unfold piecesL
  omega
theorem okLn.at {L : List (List Int)} (h : okLn L) (i : Nat) : inByte (L.getD i []) ∧ (L.getD i []).length ≤ 1048576 := by
  by_cases hi : i < L.length
  · exact h.ok _ (getD_mm hi)
  · rw [List.getD_eq_getElem?_getD, List.getElem?_eq_none (Nat.not_lt.1 hi)]
    exact ⟨fun x hx => (nomatch hx), Nat.zero_le _⟩
def blankB (L : List (List Int)) (pos : Nat) : Bool := decide (pos < L.length) && (piecesL (L.getD pos [])).isEmpty
def skF (L : List (List Int)) : Nat → Nat → Nat
  | 0, pos => pos
  | f + 1, pos => bif blankB L pos then skF L f (pos + 1) else pos
/-- The next line with pieces. -/
def skP (L : List (List Int)) (pos : Nat) : Nat := skF L (L.length + 1 - pos) pos
theorem skF_stop (L : List (List Int)) : ∀ (f pos : Nat), L.length < pos + f → blankB L (skF L f pos) = false
  | 0, pos, h => by
    show blankB L pos = false
    unfold blankB; rw [decide_eq_false (by omega)]; rfl
  | f + 1, pos, h => by
    unfold skF
    cases hb : blankB L pos with
    | true => exact skF_stop L f (pos + 1) (by omega)
    | false => exact hb
theorem skP_stop (L : List (List Int)) (pos : Nat) : blankB L (skP L pos) = false := by
  by_cases h : pos ≤ L.length
  · exact skF_stop L _ _ (by omega)
  · unfold skP
    rw [show L.length + 1 - pos = 0 by omega]
    show blankB L pos = false
    unfold blankB; rw [decide_eq_false (by omega)]; rfl
theorem skP_step {L : List (List Int)} {pos : Nat} (h : blankB L pos = true) : skP L pos = skP L (pos + 1) := by
  have hp : pos < L.length := by unfold blankB at h; simp only [Bool.and_eq_true, decide_eq_true_eq] at h; exact h.1
  unfold skP
  rw [show L.length + 1 - pos = (L.length + 1 - (pos + 1)) + 1 by omega]
  conv => lhs; unfold skF
  rw [h]; rfl
theorem skP_id {L : List (List Int)} {pos : Nat} (h : blankB L pos = false) : skP L pos = pos := by
  unfold skP
  cases L.length + 1 - pos with
  | zero => rfl
  | succ f => unfold skF; rw [h]; rfl
theorem RB.step {L : List (List Int)} {pos : Nat} {b : Bk} (h : RB L pos b) (hb : blankB L pos = true) : RB L (pos + 1) b := by
  unfold blankB at hb
  simp only [Bool.and_eq_true, decide_eq_true_eq] at hb
  exact ⟨hb.1, h.2.trans (nbF_blank hb.1 (List.isEmpty_iff.1 hb.2))⟩
theorem RB.skF {L : List (List Int)} {b : Bk} : ∀ (f pos : Nat), RB L pos b → RB L (skF L f pos) b
  | 0, _, h => h
  | f + 1, pos, h => by
    unfold Go.Se.skF
    cases hb : blankB L pos with
    | true => exact RB.skF f (pos + 1) (h.step hb)
    | false => exact h
theorem RB.skip {L : List (List Int)} {pos : Nat} {b : Bk} (h : RB L pos b) : RB L (skP L pos) b := RB.skF _ _ h
/-- At a line with pieces, or at the end. -/
theorem RB.at {L : List (List Int)} {pos : Nat} {b : Bk} (h : RB L pos b) (hb : blankB L pos = false) :
    (pos = L.length ∧ b.q = []) ∨ (pos < L.length ∧ b.q = ((pos : Int) + 1, piecesL (L.getD pos [])) :: nbF (pos + 1 : Nat) (L.drop (pos + 1)) ∧ piecesL (L.getD pos []) ≠ []) := by
  obtain ⟨h1, h2⟩ := h
  by_cases hp : pos < L.length
  · right
    have hne : piecesL (L.getD pos []) ≠ [] := fun e => by
      unfold blankB at hb; rw [decide_eq_true hp, e] at hb; cases hb
    exact ⟨hp, h2.trans (nbF_line hp hne), hne⟩
  · left
    have : pos = L.length := by omega
    subst this
    exact ⟨rfl, h2.trans nbF_end⟩
theorem RB.same {L : List (List Int)} {pos : Nat} {b : Bk} {l e p : Int} (h : RB L pos b) : RB L pos ⟨b.q, l, e, p⟩ := h
theorem RB.fail {L : List (List Int)} {pos : Nat} {b : Bk} {e a : Int} (h : RB L pos b) : RB L pos (failB b e a) := by
  unfold failB
  cases b.err == 0 && e != 0
  · exact h
  · exact h.same
theorem lnR_sub : ∀ (l w : List Int), inByte l → inByte w → ∀ x, x ∈ lnR w l → inByte x ∧ x.length ≤ w.length + l.length
  | [], w, _, hw, x, hx => by
    unfold lnR at hx
    cases h : w.isEmpty with
    | true => rw [h] at hx; cases hx
    | false =>
      rw [h] at hx
      obtain rfl := List.mem_singleton.1 hx
      exact ⟨hw, by simp⟩
  | a :: l, w, hl, hw, x, hx => by
    have hl' : inByte l := fun y hy => hl y (List.mem_cons_of_mem _ hy)
    unfold lnR at hx
    cases h : a == 10 with
    | true =>
      rw [h] at hx
      rcases List.mem_cons.1 hx with rfl | hx
      · exact ⟨hw, by simp⟩
      · have := lnR_sub l [] hl' (fun y hy => nomatch hy) x hx
        exact ⟨this.1, by simp only [List.length_nil, List.length_cons] at *; omega⟩
    | false =>
      rw [h] at hx
      have := lnR_sub l (w ++ [a]) hl' (fun y hy => by
        rcases List.mem_append.1 hy with hy | hy
        · exact hw y hy
        · obtain rfl := List.mem_singleton.1 hy; exact hl y (List.mem_cons_self ..)) x hx
      exact ⟨this.1, by simp only [List.length_append, List.length_cons, List.length_nil] at *; omega⟩
theorem lines_sub {l : List Int} (hb : inByte l) (h : l.length ≤ 1048576) : ∀ x, x ∈ linesL l → inByte x ∧ x.length ≤ 1048576 := fun x hx => by
  have := lnR_sub l [] hb (fun y hy => nomatch hy) x hx
  exact ⟨this.1, by have := this.2; simp only [List.length_nil] at this; omega⟩
end Go.Se
namespace Go.Se
theorem ba_comm (a b : ByteArray) : (a == b) = (b == a) := by
  rw [ba_beq, ba_beq, Bool.eq_iff_iff, beq_iff_eq, beq_iff_eq]; exact ⟨Eq.symm, Eq.symm⟩
theorem one_bad {b : Bk} {s : ByteArray} {ws : List ByteArray} (h : (b.err == 0) = false) : oneV b s ws = 0 ∧ oneBk b s ws = b := by
  unfold oneV oneBk; rw [h, fail_no h]; exact ⟨rfl, rfl⟩
theorem one_hit {b : Bk} {s : ByteArray} {ws : List ByteArray} {j : Nat} (h : (b.err == 0) = true) (hj : wordI s ws = j) (hl : j < ws.length) : oneV b s ws = j ∧ oneBk b s ws = b := by
  unfold oneV oneBk oneE
  rw [hj, decide_eq_true hl, h]
  exact ⟨rfl, fail_ok⟩
theorem one_miss {b : Bk} {s : ByteArray} {ws : List ByteArray} (h : (b.err == 0) = true) (hj : wordI s ws = ws.length) : oneV b s ws = 0 ∧ oneBk b s ws = ⟨b.q, b.last, 24, b.last⟩ := by
  unfold oneV oneBk oneE
  rw [hj, decide_eq_false (Nat.lt_irrefl _)]
  exact ⟨by rw [Bool.and_false]; rfl, fail_yes h (by decide)⟩
theorem wordI_t {s a : ByteArray} {l : List ByteArray} (h : (s == a) = true) : wordI s (a :: l) = 0 := by
  show (bif a == s then 0 else wordI s l + 1) = 0
  rw [ba_comm, h]; rfl
theorem wordI_f {s a : ByteArray} {l : List ByteArray} (h : (s == a) = false) : wordI s (a :: l) = wordI s l + 1 := by
  show (bif a == s then 0 else wordI s l + 1) = _
  rw [ba_comm, h]; rfl
end Go.Se
namespace Go.Se
theorem nbF_len : ∀ (l : List (List Int)) (k : Int), (nbF k l).length ≤ l.length
  | [], _ => Nat.le_refl _
  | t :: r, k => by
    unfold nbF
    have := nbF_len r (k + 1)
    cases (piecesL t).isEmpty <;> simp only [cond_true, cond_false, List.length_cons] <;> omega
theorem nbF_mem : ∀ (l : List (List Int)) (k : Int), ∀ x, x ∈ nbF k l → ∃ t, t ∈ l ∧ x.2 = piecesL t
  | [], _, x, hx => nomatch hx
  | t :: r, k, x, hx => by
    unfold nbF at hx
    cases h : (piecesL t).isEmpty with
    | true =>
      rw [h] at hx
      obtain ⟨u, h1, h2⟩ := nbF_mem r (k + 1) x hx
      exact ⟨u, List.mem_cons_of_mem _ h1, h2⟩
    | false =>
      rw [h] at hx
      rcases List.mem_cons.1 hx with rfl | hx
      · exact ⟨t, List.mem_cons_self .., rfl⟩
      · obtain ⟨u, h1, h2⟩ := nbF_mem r (k + 1) x hx
        exact ⟨u, List.mem_cons_of_mem _ h1, h2⟩
theorem okBk_open {l : List Int} (h : okLn (linesL l)) : okBk (openB l) := by
  refine ⟨nbF_wf _ _, fun x hx => ?_, ?_⟩
  · obtain ⟨t, h1, h2⟩ := nbF_mem _ _ x hx
    rw [h2]
    have := pieces_len t
    have := (h.ok t h1).2
    omega
  · have h1 := h.len
    have h2 := nbF_len (linesL l) 0
    show (nbF 0 (linesL l)).length ≤ 1048577
    omega
end Go.Se

