/- Part 40: numbers as texts: plain. -/
import Derived.Test.YtikgaohaplkjiaaDoorSeArith
import Derived.Test.YtikgaohaplkjiaaDoorSeRefM
namespace Go.Se
def digA : Nat → Int → Int → Int → List Int → List Int
  | 0, _, _, _, l => l
  | f + 1, u, least, j, l => bif decide (u > 0) || decide (j < least) then digA f (u / 10) least (j + 1) ((48 + u % 10) :: l) else l
/-- A number's digits, so many at least. -/
def digL10 (u least : Int) : List Int := digA 20 u least 0 []
theorem bytes_append (a b : List Int) : bytesOf a ++ bytesOf b = bytesOf (a ++ b) := by
  unfold bytesOf
  apply ByteArray.ext
  simp
theorem bytes_size (a : List Int) : (bytesOf a).size = a.length := by simp [bytesOf, ByteArray.size]
def cDigits : List SV → List (Option SB) → Option (Bool × SV × List (Option SB) × List Nat)
  | [.int .u64 u, .int .i64 least], [] => some (decide (least ≤ 20), .str (bytesOf (digL10 u least)), [], [])
  | _, _ => none
def cDigitsR : List SV → List (Option SB) → Out
  | [.int .u64 u], [] => some (.str (bytesOf (digL10 u 1)), [], [])
  | _, _ => none
end Go.Se
namespace Go.Se
theorem ba_beq (a b : ByteArray) : (a == b) = (a.data == b.data) := rfl
theorem digA_succ (f : Nat) (u least j : Int) (l : List Int) : digA (f + 1) u least j l = bif decide (u > 0) || decide (j < least) then digA f (u / 10) least (j + 1) ((48 + u % 10) :: l) else l := rfl
theorem bytes_nil (l : List Int) : (bytesOf l == ⟨#[]⟩) = decide (l.length < 1) := by
  rw [Bool.eq_iff_iff, ba_beq, beq_iff_eq, decide_eq_true_eq]
  constructor
  · intro h
    have h : bytesOf l = ⟨#[]⟩ := ByteArray.ext h
    have := congrArg ByteArray.size h
    rw [bytes_size] at this
    simp [ByteArray.size] at this
    simp [this]
  · intro h
    have : l = [] := by cases l with
      | nil => rfl
      | cons a l => simp at h
    subst this; rfl
theorem digA_length : ∀ (f : Nat) (u least j : Int) (l : List Int), (digA f u least j l).length ≤ l.length + f
  | 0, _, _, _, l => by simp [digA]
  | f + 1, u, least, j, l => by
    unfold digA
    cases decide (u > 0) || decide (j < least)
    · simp only [cond_false]; omega
    · simp only [cond_true]
      have := digA_length f (u / 10) least (j + 1) ((48 + u % 10) :: l)
      simp only [List.length_cons] at this
      omega
end Go.Se
namespace Go.Se
/-- A text's bytes as numbers. -/
def listOf (s : ByteArray) : List Int := s.data.toList.map fun b => (b.toNat : Int)
def rdrop : List Int → List Int
  | [] => []
  | a :: r => bif a == 48 then rdrop r else a :: r
/-- Without noughts at the end. -/
def trimL (l : List Int) : List Int := (rdrop l.reverse).reverse
def trimB (s : ByteArray) : ByteArray := bytesOf (trimL (listOf s))
def inByte (l : List Int) : Prop := ∀ x, x ∈ l → 0 ≤ x ∧ x ≤ 255
theorem bytes_list (s : ByteArray) : bytesOf (listOf s) = s := by
  unfold bytesOf listOf
  apply ByteArray.ext
  rw [List.map_map]
  have : ((fun n : Int => UInt8.ofNat n.toNat) ∘ fun b : UInt8 => (b.toNat : Int)) = id := by
    funext b
    simp
  rw [this, List.map_id]
theorem list_bytes {l : List Int} (h : inByte l) : listOf (bytesOf l) = l := by
  unfold bytesOf listOf
  simp only [List.map_map]
  conv => rhs; rw [← List.map_id l]
  refine List.map_congr_left fun x hx => ?_
  have := h x hx
  simp only [Function.comp, id_eq, UInt8.toNat_ofNat']
  omega
theorem list_inByte (s : ByteArray) : inByte (listOf s) := fun x hx => by
  unfold listOf at hx
  obtain ⟨b, _, rfl⟩ := List.mem_map.1 hx
  have := b.toNat_lt
  omega
def lastB (s : ByteArray) : Int := ((s.data.getD (IntKind.i64.wrap ((s.size : Int) - 1)).toNat 0).toNat : Int)
def cutB (s : ByteArray) : ByteArray := s.extract ((0 : Nat) : Int).toNat (IntKind.i64.wrap ((s.size : Int) - 1)).toNat
theorem last_size {a : Int} {r : List Int} (h : (a :: r).length < 9223372036854775808) : (IntKind.i64.wrap (((bytesOf (a :: r).reverse).size : Int) - 1)) = (r.length : Int) := by
  rw [bytes_size, wi64]
  simp only [List.length_reverse, List.length_cons] at h ⊢
  omega
theorem last_bytes {a : Int} {r : List Int} (h : (a :: r).length < 9223372036854775808) (ha : 0 ≤ a) (ha' : a ≤ 255) : lastB (bytesOf (a :: r).reverse) = a := by
  unfold lastB
  rw [last_size h]
  have : (bytesOf (a :: r).reverse).data = ((r.reverse.map fun n => UInt8.ofNat n.toNat) ++ [UInt8.ofNat a.toNat]).toArray := by simp [bytesOf]
  rw [this]
  simp only [Int.toNat_natCast, Array.getD_eq_getD_getElem?, List.getElem?_toArray]
  rw [List.getElem?_append_right (by simp)]
  simp
  omega
theorem cut_bytes {a : Int} {r : List Int} (h : (a :: r).length < 9223372036854775808) : cutB (bytesOf (a :: r).reverse) = bytesOf r.reverse := by
  unfold cutB
  rw [last_size h]
  apply ByteArray.ext
  simp only [bytesOf, ByteArray.data_extract, List.reverse_cons, List.map_append, List.map_cons, List.map_nil, Int.toNat_natCast]
  simp
theorem digA_inByte : ∀ (f : Nat) (u least j : Int) (l : List Int), 0 ≤ u → (∀ x, x ∈ l → 48 ≤ x ∧ x ≤ 57) → ∀ x, x ∈ digA f u least j l → 48 ≤ x ∧ x ≤ 57
  | 0, _, _, _, l, _, h => h
  | f + 1, u, least, j, l, hu, h => by
    rw [digA_succ]
    cases decide (u > 0) || decide (j < least)
    · exact h
    · refine digA_inByte f (u / 10) least (j + 1) _ (by omega) fun x hx => ?_
      rcases List.mem_cons.1 hx with rfl | hx
      · omega
      · exact h x hx
theorem digL10_digits {u least : Int} (hu : 0 ≤ u) : ∀ x, x ∈ digL10 u least → 48 ≤ x ∧ x ≤ 57 := digA_inByte 20 u least 0 [] hu fun x hx => by cases hx
theorem digA_keeps (x : Int) : ∀ (f : Nat) (u least j : Int) (l : List Int), x ∈ l → x ∈ digA f u least j l
  | 0, _, _, _, l, h => h
  | f + 1, u, least, j, l, h => by
    rw [digA_succ]
    cases decide (u > 0) || decide (j < least)
    · exact h
    · exact digA_keeps x f _ _ _ _ (List.mem_cons_of_mem _ h)
theorem digA_some : ∀ (f : Nat) (u least j : Int) (l : List Int), 0 < u → u < 10 ^ f → ∃ x, x ∈ digA f u least j l ∧ x ≠ 48
  | 0, u, _, _, _, h0, h1 => by simp at h1; omega
  | f + 1, u, least, j, l, h0, h1 => by
    rw [digA_succ, decide_eq_true h0]
    simp only [Bool.true_or, cond_true]
    have hp : (10 : Int) ^ (f + 1) = 10 ^ f * 10 := Int.pow_succ 10 f
    by_cases h : u % 10 = 0
    · exact digA_some f (u / 10) least (j + 1) _ (by omega) (by omega)
    · exact ⟨48 + u % 10, digA_keeps _ _ _ _ _ _ (List.mem_cons_self ..), by omega⟩
def padTo (l : List Int) : List Int := List.replicate (10 - l.length) 48 ++ l
theorem padTo_cons (l : List Int) (h : l.length < 10) : padTo (48 :: l) = padTo l := by
  unfold padTo
  rw [List.length_cons, show 10 - l.length = (10 - (l.length + 1)) + 1 by omega, List.replicate_succ']
  simp
theorem digA_nought : ∀ (f : Nat) (j : Nat) (l : List Int), l.length = j → j + f = 20 → digA f 0 10 j l = padTo l
  | 0, j, l, hl, hj => by
    unfold padTo
    rw [show 10 - l.length = 0 by omega]; rfl
  | f + 1, j, l, hl, hj => by
    rw [digA_succ, show decide ((0 : Int) > 0) = false from rfl, Bool.false_or]
    by_cases h : j < 10
    · rw [decide_eq_true (show (j : Int) < 10 by omega)]
      have := digA_nought f (j + 1) (48 :: l) (by simp [hl]) (by omega)
      push_cast at this
      simp only [cond_true]
      rw [show (0 : Int) / 10 = 0 by decide, show (48 + (0 : Int) % 10) = 48 by decide, this]
      exact padTo_cons l (by omega)
    · rw [decide_eq_false (show ¬ (j : Int) < 10 by omega)]
      simp only [cond_false]
      unfold padTo
      rw [show 10 - l.length = 0 by omega]; rfl
theorem digA_pad : ∀ (f : Nat) (u : Int) (j : Nat) (l : List Int), l.length = j → j + f = 20 → 0 ≤ u → u < 10 ^ f → (0 < u ∨ 1 ≤ j) → digA f u 10 j l = padTo (digA f u 1 j l)
  | 0, u, j, l, hl, hj, h0, h1, h2 => by
    unfold padTo
    show l = List.replicate (10 - l.length) 48 ++ l
    rw [show 10 - l.length = 0 by omega]; rfl
  | f + 1, u, j, l, hl, hj, h0, h1, h2 => by
    have hp : (10 : Int) ^ (f + 1) = 10 ^ f * 10 := Int.pow_succ 10 f
    by_cases hu : 0 < u
    · rw [digA_succ, digA_succ, decide_eq_true (show u > 0 from hu)]
      simp only [Bool.true_or, cond_true]
      have := digA_pad f (u / 10) (j + 1) ((48 + u % 10) :: l) (by simp [hl]) (by omega) (by omega) (by omega) (.inr (by omega))
      push_cast at this
      exact this
    · have : u = 0 := by omega
      subst this
      rw [digA_nought (f + 1) j l hl hj, digA_succ, show decide ((0 : Int) > 0) = false from rfl, decide_eq_false (show ¬ (j : Int) < 1 by omega)]
      rfl
theorem digL10_pad {u : Int} (h0 : 0 < u) (h1 : u < 18446744073709551616) : digL10 u 10 = padTo (digL10 u 1) :=
  digA_pad 20 u 0 [] rfl rfl (by omega) (by omega) (.inl h0)
theorem rdrop_some : ∀ {r : List Int}, (∃ x, x ∈ r ∧ x ≠ 48) → rdrop r ≠ []
  | [], ⟨x, h, _⟩ => nomatch h
  | a :: r, ⟨x, h, hx⟩ => by
    unfold rdrop
    by_cases ha : a = 48
    · subst ha
      rcases List.mem_cons.1 h with rfl | h
      · exact absurd rfl hx
      · exact rdrop_some ⟨x, h, hx⟩
    · rw [show (a == 48) = false by simpa using ha]
      simp
def fracT (u : Int) : Int := divV (u % 4294967296 * 10000000000) 4294967296
def signL (n : Int) : List Int := bif decide (n < 0) then [45] else []
def wholeL (n : Int) : List Int := signL n ++ digL10 (absI n) 1
def textL (n : Int) : List Int :=
  signL n ++ (digL10 (absI n / 4294967296) 1 ++ bif fracT (absI n) == 0 then [] else 46 :: trimL (digL10 (fracT (absI n)) 10))
theorem fracT_range {u : Int} (hu : 0 ≤ u) : 0 ≤ fracT u ∧ fracT u ≤ 10000000000 := by
  unfold fracT divV divGood divN rneQ
  have h0 : 0 ≤ u % 4294967296 * 10000000000 := by omega
  have h1 : u % 4294967296 * 10000000000 ≤ 4294967295 * 10000000000 := by omega
  rw [show absI (u % 4294967296 * 10000000000) = u % 4294967296 * 10000000000 by unfold absI; rw [decide_eq_false (show ¬ u % 4294967296 * 10000000000 < 0 by omega)]; rfl]
  rw [show absI 4294967296 = 4294967296 by decide, decide_eq_false (show ¬ u % 4294967296 * 10000000000 < 0 by omega)]
  generalize u % 4294967296 * 10000000000 = p at *
  rw [show (false != decide ((4294967296 : Int) < 0)) = false by decide]
  simp only [cond_false]
  cases hc : (decide (p % 4294967296 > 4294967296 - p % 4294967296) || (p % 4294967296 == 4294967296 - p % 4294967296 && p / 4294967296 % 2 == 1)) && decide (p % 4294967296 > 0)
  · simp only [cond_false]
    cases hg : ((4294967296 : Int) != 0 && in64 (p / 4294967296))
    · simp only [cond_false]; omega
    · simp only [cond_true]; omega
  · simp only [cond_true]
    cases hg : ((4294967296 : Int) != 0 && in64 (p / 4294967296 + 1))
    · simp only [cond_false]; omega
    · simp only [cond_true]; omega
end Go.Se
namespace Go.Se
theorem list_length (s : ByteArray) : (listOf s).length = s.size := by
  unfold listOf
  rw [List.length_map, Array.length_toList]; rfl
end Go.Se
namespace Go.Se
theorem rdrop_length : ∀ r : List Int, (rdrop r).length ≤ r.length
  | [] => Nat.le_refl _
  | a :: r => by
    unfold rdrop
    cases a == 48
    · exact Nat.le_refl _
    · have := rdrop_length r
      simp only [cond_true, List.length_cons]; omega
theorem trimL_length (l : List Int) : (trimL l).length ≤ l.length := by
  unfold trimL
  have := rdrop_length l.reverse
  rw [List.length_reverse] at this ⊢
  exact this
theorem digits_inByte {u least : Int} (hu : 0 ≤ u) : inByte (digL10 u least) := fun x hx => by
  have := digL10_digits hu x hx
  omega
theorem trimB_bytes {l : List Int} (h : inByte l) : trimB (bytesOf l) = bytesOf (trimL l) := by
  unfold trimB
  rw [list_bytes h]
theorem digL10_length (u least : Int) : (digL10 u least).length ≤ 20 := by
  have := digA_length 20 u least 0 []
  rw [List.length_nil, Nat.zero_add] at this
  exact this
def m32b (x : Int) : Int := IntKind.u64.wrap ↑(BitVec.ofInt IntKind.u64.bits x &&& BitVec.ofInt IntKind.u64.bits 4294967295).toNat
def textT (sg : ByteArray) (u : Int) (K : KC) : Prop :=
  (fun h p => If (decide (sg.size + h.size < 9223372036854775808)) ((fun d => Br (decide (d > 0)) (If (decide ((⟨#[46]⟩ : ByteArray).size + (trimB (bytesOf (digL10 (IntKind.u64.wrap d) 10))).size < 9223372036854775808))
      (If (decide ((sg ++ h).size + ((⟨#[46]⟩ : ByteArray) ++ trimB (bytesOf (digL10 (IntKind.u64.wrap d) 10))).size < 9223372036854775808)) (K (.str ((sg ++ h) ++ ((⟨#[46]⟩ : ByteArray) ++ trimB (bytesOf (digL10 (IntKind.u64.wrap d) 10))))) [] [])))
    (K (.str (sg ++ h)) [] [])) (divV (wv (p / 18446744073709551616) (p % 18446744073709551616)) 4294967296)))
    (bytesOf (digL10 (u.fdiv (2 ^ min (32 : Int).toNat IntKind.u64.bits)) 1)) (IntKind.i64.wrap (m32b u) * 10000000000)
def fracL (u : Int) : List Int := bif fracT u == 0 then [] else 46 :: trimL (digL10 (fracT u) 10)
theorem textT_law {sg : List Int} {u : Int} {K : KC} (h0 : 0 ≤ u) (h1 : u ≤ 9223372036854775808) (hs : sg.length ≤ 1)
    (hK : K (.str (bytesOf (sg ++ (digL10 (u / 4294967296) 1 ++ fracL u)))) [] []) : textT (bytesOf sg) u K := by
  have hm : m32b u = u % 4294967296 := by
    unfold m32b; rw [wu64]
    show (((BitVec.ofInt 64 u &&& BitVec.ofInt 64 4294967295).toNat : Nat) : Int) % _ = _
    rw [and_m32 u h0 (by omega)]; omega
  have hw : IntKind.i64.wrap (u % 4294967296) = u % 4294967296 := by rw [wi64]; omega
  have hd : u.fdiv (2 ^ min (32 : Int).toNat IntKind.u64.bits) = u / 4294967296 := by
    show u.fdiv 4294967296 = _
    exact fdiv_pos _ (by decide)
  have hf := fracT_range h0
  have hwf : IntKind.u64.wrap (fracT u) = fracT u := by rw [wu64]; omega
  have l1 := digL10_length (u / 4294967296) 1
  have l2 := digL10_length (fracT u) 10
  have l3 := trimL_length (digL10 (fracT u) 10)
  unfold textT
  rw [hm, hw, hd]
  show If _ (Br _ _ _)
  rw [wv_wide]
  show If _ (Br (decide (fracT u > 0)) (If (decide ((⟨#[46]⟩ : ByteArray).size + (trimB (bytesOf (digL10 (IntKind.u64.wrap (fracT u)) 10))).size < 9223372036854775808))
      (If (decide ((bytesOf sg ++ bytesOf (digL10 (u / 4294967296) 1)).size + ((⟨#[46]⟩ : ByteArray) ++ trimB (bytesOf (digL10 (IntKind.u64.wrap (fracT u)) 10))).size < 9223372036854775808)) (K (.str ((bytesOf sg ++ bytesOf (digL10 (u / 4294967296) 1)) ++ ((⟨#[46]⟩ : ByteArray) ++ trimB (bytesOf (digL10 (IntKind.u64.wrap (fracT u)) 10))))) [] [])))
    (K (.str (bytesOf sg ++ bytesOf (digL10 (u / 4294967296) 1))) [] []))
  rw [hwf, trimB_bytes (digits_inByte hf.1), show (⟨#[46]⟩ : ByteArray) = bytesOf [46] from rfl, bytes_append, bytes_append, bytes_append, bytes_size, bytes_size, bytes_size, bytes_size, bytes_size, bytes_size]
  unfold fracL at hK
  refine If.mk (decide_eq_true (by omega)) (Br.of (fun c => If.mk (decide_eq_true ?_) (If.mk (decide_eq_true ?_) ?_)) fun c => ?_)
  · simp only [List.length_cons, List.length_nil]; omega
  · simp only [List.length_append, List.length_cons, List.length_nil]; omega
  · have := of_decide_eq_true c
    rw [show (fracT u == 0) = false by rw [beq_eq_false_iff_ne]; omega] at hK
    rw [List.append_assoc]
    exact hK
  · have := of_decide_eq_false c
    rw [show (fracT u == 0) = true by rw [beq_iff_eq]; omega] at hK
    simp only [cond_true, List.append_nil] at hK
    exact hK
end Go.Se

/- Part 41: where a byte stands in a text: what the model itself has. -/
namespace Go.Se
variable {P : Program}
/-- Where a byte stands first; -1: nowhere. -/
def idxFrom (c : Int) : Nat → List Int → Int
  | _, [] => -1
  | i, a :: l => bif a == c then (i : Int) else idxFrom c (i + 1) l
def idxB (s : ByteArray) (c : Int) : Int := match (List.range s.size).find? fun i => s[i]! == c.toNat.toUInt8 with
  | some i => (i : Int)
  | none => -1
def cIdxB : List SV → List (Option SB) → Out
  | [.str s, .int .u8 c], [] => some (.int .i64 (idxB s c), [], [])
  | _, _ => none
theorem two_args {ρ : Names} {T : Nat → Prop} {w : World} {x y : SV} {vals : Array Value} (h : relL ρ T w [x, y] vals.toList) : ∃ a b, vals = #[a, b] ∧ rel ρ T w x a ∧ rel ρ T w y b := by
  obtain ⟨a, r, h1, ha, b, s, h2, hb, h4⟩ := h
  cases h4
  subst h2
  exact ⟨a, b, by rw [← Array.toList_inj, h1], ha, hb⟩
theorem idxB_range (s : ByteArray) (c : Int) (hs : s.size < 9223372036854775808) : -9223372036854775808 ≤ idxB s c ∧ idxB s c ≤ 9223372036854775807 := by
  unfold idxB
  cases h : (List.range s.size).find? fun i => s[i]! == c.toNat.toUInt8 with
  | none => simp
  | some i =>
    have := List.mem_range.1 (List.mem_of_find?_eq_some h)
    show _ ≤ (i : Int) ∧ (i : Int) ≤ _
    omega
theorem idxB_sat {k : FuncId} {fn : Func} (hf : P.funcs[k]? = some fn) (hname : (fn.name == "runtime.NumGoroutine") = false) (hb : fn.body.isNone = true)
    (hn : Extern.findNext fn = none) (he : Extern.find fn = some Extern.BytealgIndexByte.indexByte) (xs : List SV) (σ : List (Option SB)) : Sat P k xs σ (one cIdxB xs σ) := by
  refine one_sat (fun xs σ v σ' d h => ?_) xs σ
  unfold cIdxB at h
  split at h
  · rename_i s c
    cases h
    refine callOK_extern hf hname hb hn he fun T w vals hv => ?_
    obtain ⟨_, _, rfl, ⟨rfl, hs⟩, ⟨rfl, hc⟩⟩ := two_args hv
    refine ⟨.int .i64 (idxB s c), ?_, rfl, idxB_range s c hs⟩
    unfold idxB
    show (do
      let b ← Extern.Bytes.bytesOf (.string s)
      let d ← Extern.Bytes.asByte (.int .u8 c)
      match (List.range b.size).find? fun i => b[i]! == d with
      | some i => pure (goInt i)
      | none => pure (goInt (-1)) : Sem Value).run P w = _
    simp only [Extern.Bytes.bytesOf, Extern.Bytes.asByte, Sem.run_bind, Sem.run_pure, Result.andThen_ok]
    cases h : (List.range s.size).find? fun i => s[i]! == c.toNat.toUInt8 with
    | none => rfl
    | some i => rfl
  · cases h
end Go.Se

/- Part 42: numbers out of texts: plain. -/
namespace Go.Se
theorem extract_bytes (l : List Int) (i j : Nat) : (bytesOf l).extract i j = bytesOf ((l.drop i).take (j - i)) := by
  apply ByteArray.ext
  simp only [bytesOf, ByteArray.data_extract, List.extract_toArray, List.map_take, List.map_drop]
theorem index_bytes {l : List Int} (h : inByte l) (i : Nat) : (((bytesOf l).data.getD i 0).toNat : Int) = l.getD i 0 := by
  simp only [bytesOf, Array.getD_eq_getD_getElem?, List.getElem?_toArray, List.getElem?_map, List.getD_eq_getElem?_getD]
  cases hl : l[i]? with
  | none => simp
  | some x =>
    have := h x (List.mem_of_getElem? hl)
    simp
    omega
theorem beq_bytes {a b : List Int} (ha : inByte a) (hb : inByte b) : (bytesOf a == bytesOf b) = decide (a = b) := by
  rw [Bool.eq_iff_iff, ba_beq, beq_iff_eq, decide_eq_true_eq]
  constructor
  · intro h
    rw [← list_bytes ha, ← list_bytes hb, show bytesOf a = bytesOf b from ByteArray.ext h]
  · rintro rfl; rfl
theorem bang_bytes {l : List Int} (h : inByte l) {i : Nat} (hi : i < l.length) : (bytesOf l)[i]! = (l.getD i 0).toNat.toUInt8 := by
  have hs : i < (bytesOf l).size := by rw [bytes_size]; exact hi
  rw [getElem!_pos (bytesOf l) i hs]
  show (bytesOf l).data[i] = _
  simp only [bytesOf, List.getElem_toArray, List.getElem_map, List.getD_eq_getElem?_getD, List.getElem?_eq_getElem hi, Option.getD_some]
theorem find_congr {α : Type} {p q : α → Bool} : ∀ l : List α, (∀ x, x ∈ l → p x = q x) → l.find? p = l.find? q
  | [], _ => rfl
  | a :: l, h => by
    rw [List.find?_cons, List.find?_cons, h a (List.mem_cons_self ..), find_congr l fun x hx => h x (List.mem_cons_of_mem _ hx)]
theorem idxFrom_find (c : Int) (hc : 0 ≤ c) (hc' : c ≤ 255) : ∀ (l : List Int) (o : Nat), inByte l → idxFrom c o l = match (List.range l.length).find? fun i => (l.getD i 0).toNat.toUInt8 == c.toNat.toUInt8 with
    | some i => ((o + i : Nat) : Int)
    | none => -1
  | [], o, _ => rfl
  | a :: l, o, h => by
    have ha := h a (List.mem_cons_self ..)
    have hb : (a.toNat.toUInt8 == c.toNat.toUInt8) = (a == c) := by
      rw [Bool.eq_iff_iff, beq_iff_eq, beq_iff_eq]
      constructor
      · intro e
        have := congrArg UInt8.toNat e
        simp at this
        omega
      · rintro rfl; rfl
    unfold idxFrom
    rw [List.length_cons, List.range_succ_eq_map, List.find?_cons]
    simp only [List.getD_cons_zero, hb]
    cases hac : a == c
    · simp only [cond_false]
      rw [idxFrom_find c hc hc' l (o + 1) (fun x hx => h x (List.mem_cons_of_mem _ hx)), List.find?_map]
      simp only [Function.comp_def, List.getD_cons_succ]
      cases (List.range l.length).find? fun i => (l.getD i 0).toNat.toUInt8 == c.toNat.toUInt8 with
      | none => rfl
      | some i => simp only [Option.map_some]; congr 1; omega
    · simp
theorem idxB_bytes {l : List Int} (h : inByte l) {c : Int} (hc : 0 ≤ c) (hc' : c ≤ 255) : idxB (bytesOf l) c = idxFrom c 0 l := by
  rw [idxFrom_find c hc hc' l 0 h]
  unfold idxB
  rw [bytes_size]
  have : (List.range l.length).find? (fun i => (bytesOf l)[i]! == c.toNat.toUInt8) = (List.range l.length).find? fun i => (l.getD i 0).toNat.toUInt8 == c.toNat.toUInt8 := by
    refine find_congr _ fun i hi => ?_
    rw [bang_bytes h (List.mem_range.1 hi)]
  rw [this]
  cases (List.range l.length).find? fun i => (l.getD i 0).toNat.toUInt8 == c.toNat.toUInt8 with
  | none => rfl
  | some i => simp
end Go.Se
namespace Go.Se
def minusB : List Int → Bool
  | a :: _ => a == 45
  | [] => false
def minusL (l : List Int) : List Int := bif minusB l then l.tail else l
def cutH (c : Int) : List Int → List Int
  | [] => []
  | a :: l => bif a == c then [] else a :: cutH c l
def cutT (c : Int) : List Int → List Int
  | [] => []
  | a :: l => bif a == c then l else cutT c l
def hasC (c : Int) : List Int → Bool
  | [] => false
  | a :: l => a == c || hasC c l
theorem idxFrom_cut (c : Int) : ∀ (l : List Int) (o : Nat), idxFrom c o l = bif hasC c l then ((o + (cutH c l).length : Nat) : Int) else -1
  | [], o => rfl
  | a :: l, o => by
    unfold idxFrom hasC cutH
    cases h : a == c
    · simp only [cond_false, Bool.false_or]
      rw [idxFrom_cut c l (o + 1)]
      cases hasC c l
      · rfl
      · simp only [cond_true, List.length_cons]; congr 1; omega
    · simp
theorem cut_parts (c : Int) : ∀ l : List Int, hasC c l = true → l = cutH c l ++ c :: cutT c l
  | [], h => by cases h
  | a :: l, h => by
    unfold hasC at h
    unfold cutH cutT
    cases e : a == c
    · rw [e, Bool.false_or] at h
      simp only [cond_false, List.cons_append]
      rw [← cut_parts c l h]
    · have : a = c := by simpa using e
      subst this
      rfl
theorem cutH_none (c : Int) : ∀ l : List Int, hasC c l = false → cutH c l = l
  | [], _ => rfl
  | a :: l, h => by
    unfold hasC at h
    rw [Bool.or_eq_false_iff] at h
    unfold cutH
    rw [h.1]
    simp only [cond_false]
    rw [cutH_none c l h.2]
def digC (a : Int) : Int := IntKind.u8.wrap (a - 48)
def numS : Int → List Int → Option Int
  | n, [] => some n
  | n, a :: l => bif decide (digC a > 9) then none else numS (IntKind.i64.wrap (IntKind.i64.wrap (10 * n) + IntKind.i64.wrap (digC a))) l
def numG (l : List Int) (most : Int) : Bool := decide (l.length < 1) || decide ((l.length : Int) > most)
def numN (l : List Int) (most : Int) : Int := bif numG l most then 0 else (numS 0 l).getD 0
def numB (l : List Int) (most : Int) : Bool := bif numG l most then false else (numS 0 l).isSome
/-- What a row of digits tells. -/
def valD : Int → List Int → Int
  | n, [] => n
  | n, a :: l => valD (10 * n + (a - 48)) l
def allD (l : List Int) : Prop := ∀ x, x ∈ l → 48 ≤ x ∧ x ≤ 57
theorem ten_pos (k : Nat) : (1 : Int) ≤ 10 ^ k := by
  have : (0 : Int) < 10 ^ k := Int.pow_pos (by decide)
  omega
theorem numS_digits : ∀ (l : List Int) (n : Int), allD l → 0 ≤ n → n < 10 ^ (18 - l.length) → l.length ≤ 18 → numS n l = some (valD n l) ∧ 0 ≤ valD n l ∧ valD n l < 1000000000000000000
  | [], n, _, h0, h1, _ => ⟨rfl, h0, h1⟩
  | a :: l, n, hd, h0, h1, hl => by
    have ha := hd a (List.mem_cons_self ..)
    simp only [List.length_cons] at h1 hl
    have hc : digC a = a - 48 := by unfold digC; rw [wu8]; omega
    have hp : (10 : Int) ^ (18 - l.length) = 10 ^ (18 - (l.length + 1)) * 10 := by
      rw [show 18 - l.length = (18 - (l.length + 1)) + 1 by omega, Int.pow_succ]
    have hb : (10 : Int) ^ (18 - l.length) ≤ 1000000000000000000 := by
      have : (10 : Int) ^ (18 - l.length) * 10 ^ l.length = 10 ^ 18 := by rw [← Int.pow_add]; congr 1; omega
      have h1' : (1 : Int) ≤ 10 ^ l.length := ten_pos l.length
      have hq : (0 : Int) < 10 ^ (18 - l.length) := Int.pow_pos (by decide)
      have := Int.mul_le_mul_of_nonneg_left h1' (Int.le_of_lt hq)
      omega
    unfold numS valD
    rw [hc, decide_eq_false (show ¬ a - 48 > 9 by omega)]
    simp only [cond_false, wi64]
    rw [show ((10 * n + 9223372036854775808) % 18446744073709551616 - 9223372036854775808 + ((a - 48 + 9223372036854775808) % 18446744073709551616 - 9223372036854775808) + 9223372036854775808) % 18446744073709551616 - 9223372036854775808 = 10 * n + (a - 48) by omega]
    exact numS_digits l (10 * n + (a - 48)) (fun x hx => hd x (List.mem_cons_of_mem _ hx)) (by omega) (by omega) (by omega)
theorem valD_add : ∀ (l : List Int) (n : Int), valD n l = n * 10 ^ l.length + valD 0 l
  | [], n => by simp [valD]
  | a :: l, n => by
    unfold valD
    rw [valD_add l, valD_add l (10 * 0 + (a - 48)), List.length_cons, Int.pow_succ]
    grind
theorem valD_digA : ∀ (f : Nat) (u least j : Int) (l : List Int), 0 ≤ u → u < 10 ^ f → valD 0 (digA f u least j l) = u * 10 ^ l.length + valD 0 l
  | 0, u, _, _, l, h0, h1 => by
    have : u = 0 := by simp at h1; omega
    subst this
    simp [digA]
  | f + 1, u, least, j, l, h0, h1 => by
    have hp : (10 : Int) ^ (f + 1) = 10 ^ f * 10 := Int.pow_succ 10 f
    rw [digA_succ]
    cases h : decide (u > 0) || decide (j < least)
    · simp only [cond_false]
      have : u = 0 := by
        rw [Bool.or_eq_false_iff] at h
        have := of_decide_eq_false h.1
        omega
      subst this
      simp
    · simp only [cond_true]
      rw [valD_digA f (u / 10) least (j + 1) _ (by omega) (by omega), List.length_cons, Int.pow_succ, valD, valD_add]
      have e : u = u / 10 * 10 + u % 10 := by omega
      generalize u / 10 = q at *
      generalize u % 10 = r at *
      subst e
      grind
theorem valD_digL10 {u least : Int} (h0 : 0 ≤ u) (h1 : u < 18446744073709551616) : valD 0 (digL10 u least) = u := by
  have := valD_digA 20 u least 0 [] h0 (by omega)
  simpa [digL10, valD] using this
theorem valD_append : ∀ (a b : List Int) (n : Int), valD n (a ++ b) = valD (valD n a) b
  | [], _, _ => rfl
  | x :: a, b, n => valD_append a b (10 * n + (x - 48))
/-- So many digits at the most. -/
theorem digA_len : ∀ (f k : Nat) (u : Int) (j : Nat) (l : List Int), l.length = j → 0 ≤ u → u < 10 ^ k → j + k ≤ j + f → (digA f u 1 j l).length ≤ max 1 (j + k)
  | 0, k, u, j, l, hl, h0, h1, hk => by
    show l.length ≤ _
    omega
  | f + 1, k, u, j, l, hl, h0, h1, hk => by
    rw [digA_succ]
    by_cases hu : 0 < u
    · rw [decide_eq_true (show u > 0 from hu)]
      simp only [Bool.true_or, cond_true]
      cases k with
      | zero => simp at h1; omega
      | succ k =>
        have hp : (10 : Int) ^ (k + 1) = 10 ^ k * 10 := Int.pow_succ 10 k
        have := digA_len f k (u / 10) (j + 1) ((48 + u % 10) :: l) (by simp [hl]) (by omega) (by omega) (by omega)
        push_cast at this
        omega
    · have : u = 0 := by omega
      subst this
      rw [show decide ((0 : Int) > 0) = false from rfl, Bool.false_or]
      by_cases hj : (j : Int) < 1
      · rw [decide_eq_true hj]
        simp only [cond_true]
        have hj0 : j = 0 := by omega
        subst hj0
        have hl0 : l = [] := List.length_eq_zero_iff.1 hl
        subst hl0
        cases f with
        | zero => simp [digA]; omega
        | succ f =>
          rw [digA_succ]
          simp
          omega
      · rw [decide_eq_false hj]
        simp only [cond_false]
        omega
end Go.Se
namespace Go.Se
theorem rdrop_pad : ∀ r : List Int, r = List.replicate (r.length - (rdrop r).length) 48 ++ rdrop r
  | [] => rfl
  | a :: r => by
    unfold rdrop
    by_cases h : a = 48
    · subst h
      simp only [BEq.rfl, cond_true, List.length_cons]
      have hl := rdrop_length r
      rw [show r.length + 1 - (rdrop r).length = (r.length - (rdrop r).length) + 1 by omega, List.replicate_succ, List.cons_append, ← rdrop_pad r]
    · rw [show (a == 48) = false by simpa using h]
      simp
theorem trimL_pad (l : List Int) : trimL l ++ List.replicate (l.length - (trimL l).length) 48 = l := by
  have h := congrArg List.reverse (rdrop_pad l.reverse)
  rw [List.reverse_reverse, List.reverse_append, List.reverse_replicate, List.length_reverse] at h
  unfold trimL
  rw [List.length_reverse]
  exact h.symm
theorem trimL_sub {l : List Int} {x : Int} (h : x ∈ trimL l) : x ∈ l := by
  rw [← trimL_pad l]
  exact List.mem_append_left _ h
theorem digA_min : ∀ (f : Nat) (u : Int) (j : Nat) (l : List Int), l.length = j → 1 ≤ (digA (f + 1) u 1 j l).length
  | f, u, j, l, hl => by
    rw [digA_succ]
    cases h : decide (u > 0) || decide ((j : Int) < 1)
    · simp only [cond_false]
      rw [Bool.or_eq_false_iff] at h
      have := of_decide_eq_false h.2
      omega
    · simp only [cond_true]
      have : ∀ (f : Nat) (u least j : Int) (l : List Int), l.length ≤ (digA f u least j l).length := fun f => by
        induction f with
        | zero => intro _ _ _ l; exact Nat.le_refl _
        | succ f ih =>
          intro u least j l
          rw [digA_succ]
          cases decide (u > 0) || decide (j < least)
          · exact Nat.le_refl _
          · have := ih (u / 10) least (j + 1) ((48 + u % 10) :: l)
            simp only [cond_true, List.length_cons] at this ⊢
            omega
      have := this f (u / 10) 1 (j + 1) ((48 + u % 10) :: l)
      simp only [List.length_cons] at this
      omega
theorem digL10_min (u : Int) : 1 ≤ (digL10 u 1).length := digA_min 19 u 0 [] rfl
theorem digL10_small {k : Nat} {u : Int} (h0 : 0 ≤ u) (h1 : u < 10 ^ k) (hk : k ≤ 20) : (digL10 u 1).length ≤ max 1 k := by
  have := digA_len 20 k u 0 [] rfl h0 h1 (by omega)
  rw [Nat.zero_add] at this
  exact this
theorem padTo_len {l : List Int} (h : l.length ≤ 10) : (padTo l).length = 10 := by
  unfold padTo
  rw [List.length_append, List.length_replicate]
  omega
theorem num_ok {l : List Int} {most : Int} (hd : allD l) (h1 : 1 ≤ l.length) (h2 : (l.length : Int) ≤ most) (h3 : l.length ≤ 18) : numB l most = true ∧ numN l most = valD 0 l := by
  have hg : numG l most = false := by
    unfold numG
    rw [decide_eq_false (show ¬ l.length < 1 by omega), decide_eq_false (show ¬ (l.length : Int) > most by omega)]; rfl
  obtain ⟨h, _, _⟩ := numS_digits l 0 hd (Int.le_refl 0) (by have := ten_pos (18 - l.length); omega) h3
  unfold numB numN
  rw [hg, h]
  exact ⟨rfl, rfl⟩
theorem hasC_digits {c : Int} (hc : c < 48) : ∀ l : List Int, allD l → hasC c l = false
  | [], _ => rfl
  | a :: l, h => by
    have := h a (List.mem_cons_self ..)
    unfold hasC
    rw [hasC_digits hc l fun x hx => h x (List.mem_cons_of_mem _ hx), show (a == c) = false by rw [beq_eq_false_iff_ne]; omega]; rfl
theorem cut_digits {c : Int} (hc : c < 48) : ∀ (l m : List Int), allD l → hasC c (l ++ c :: m) = true ∧ cutH c (l ++ c :: m) = l ∧ cutT c (l ++ c :: m) = m
  | [], m, _ => by unfold hasC cutH cutT; simp
  | a :: l, m, h => by
    have ha := h a (List.mem_cons_self ..)
    obtain ⟨h1, h2, h3⟩ := cut_digits hc l m fun x hx => h x (List.mem_cons_of_mem _ hx)
    rw [List.cons_append]
    unfold hasC cutH cutT
    rw [show (a == c) = false by rw [beq_eq_false_iff_ne]; omega, h1, h2, h3]
    exact ⟨rfl, rfl, rfl⟩
theorem minus_digits {l m : List Int} (hd : allD l) (h1 : 1 ≤ l.length) : minusB (l ++ m) = false ∧ minusL (l ++ m) = l ++ m := by
  cases l with
  | nil => simp at h1
  | cons a l =>
    have := hd a (List.mem_cons_self ..)
    have hb : minusB (a :: l ++ m) = false := by
      show (a == 45) = false
      rw [beq_eq_false_iff_ne]; omega
    exact ⟨hb, by unfold minusL; rw [hb]; rfl⟩
theorem fracT_lt {u : Int} (hu : 0 ≤ u) : fracT u ≤ 9999999998 ∧ 2 * (fracT u * 4294967296) - 2 * (u % 4294967296 * 10000000000) ≤ 4294967296 ∧ 2 * (u % 4294967296 * 10000000000) - 2 * (fracT u * 4294967296) ≤ 4294967296 := by
  unfold fracT divV divGood divN rneQ
  have h0 : 0 ≤ u % 4294967296 * 10000000000 := by omega
  have h1 : u % 4294967296 * 10000000000 ≤ 4294967295 * 10000000000 := by omega
  rw [show absI (u % 4294967296 * 10000000000) = u % 4294967296 * 10000000000 by unfold absI; rw [decide_eq_false (show ¬ u % 4294967296 * 10000000000 < 0 by omega)]; rfl]
  rw [show absI 4294967296 = 4294967296 by decide, decide_eq_false (show ¬ u % 4294967296 * 10000000000 < 0 by omega)]
  generalize u % 4294967296 * 10000000000 = p at *
  rw [show (false != decide ((4294967296 : Int) < 0)) = false by decide]
  simp only [cond_false]
  cases hc : (decide (p % 4294967296 > 4294967296 - p % 4294967296) || (p % 4294967296 == 4294967296 - p % 4294967296 && p / 4294967296 % 2 == 1)) && decide (p % 4294967296 > 0)
  · simp only [cond_false]
    have hn : ¬ p % 4294967296 > 4294967296 - p % 4294967296 := fun h => by
      rw [decide_eq_true h, Bool.true_or, Bool.true_and] at hc
      have := of_decide_eq_false hc; omega
    rw [show ((4294967296 : Int) != 0 && in64 (p / 4294967296)) = true by rw [(in64_iff _).2 (by omega)]; rfl]
    simp only [cond_true]; omega
  · simp only [cond_true]
    simp only [Bool.and_eq_true, Bool.or_eq_true, decide_eq_true_eq, beq_iff_eq] at hc
    rw [show ((4294967296 : Int) != 0 && in64 (p / 4294967296 + 1)) = true by rw [(in64_iff _).2 (by omega)]; rfl]
    simp only [cond_true]; omega
theorem rneQ_near (n : Int) (h : 0 ≤ n) : 2 * n - 10000000000 ≤ 20000000000 * rneQ n 10000000000 ∧ 20000000000 * rneQ n 10000000000 ≤ 2 * n + 10000000000 ∧ 0 ≤ rneQ n 10000000000 := by
  unfold rneQ
  cases hc : (decide (n % 10000000000 > 10000000000 - n % 10000000000) || (n % 10000000000 == 10000000000 - n % 10000000000 && n / 10000000000 % 2 == 1)) && decide (n % 10000000000 > 0)
  · simp only [cond_false]
    have : ¬ n % 10000000000 > 10000000000 - n % 10000000000 := fun h1 => by
      rw [decide_eq_true h1, Bool.true_or, Bool.true_and] at hc
      have := of_decide_eq_false hc; omega
    omega
  · simp only [cond_true]
    simp only [Bool.and_eq_true, Bool.or_eq_true, decide_eq_true_eq, beq_iff_eq] at hc
    omega
/-- The fraction comes back. -/
theorem frac_back {u : Int} (hu : 0 ≤ u) : divV (fracT u * 4294967296) 10000000000 = u % 4294967296 := by
  have h := fracT_lt hu
  have h0 := (fracT_range hu).1
  have hp : 0 ≤ fracT u * 4294967296 := by omega
  have hr := rneQ_near _ hp
  have hn : divN (fracT u * 4294967296) 10000000000 = rneQ (fracT u * 4294967296) 10000000000 := by
    unfold divN
    rw [show absI (fracT u * 4294967296) = fracT u * 4294967296 by unfold absI; rw [decide_eq_false (show ¬ fracT u * 4294967296 < 0 by omega)]; rfl, show absI 10000000000 = 10000000000 by decide,
      decide_eq_false (show ¬ fracT u * 4294967296 < 0 by omega)]; rfl
  unfold divV divGood
  rw [hn, show ((10000000000 : Int) != 0 && in64 (rneQ (fracT u * 4294967296) 10000000000)) = true by rw [(in64_iff _).2 (by omega)]; rfl]
  simp only [cond_true]
  omega
end Go.Se
namespace Go.Se
theorem cutT_none (c : Int) : ∀ l : List Int, hasC c l = false → cutT c l = []
  | [], _ => rfl
  | a :: l, h => by
    unfold hasC at h
    rw [Bool.or_eq_false_iff] at h
    unfold cutT
    rw [h.1]
    exact cutT_none c l h.2
theorem cut_take (c : Int) : ∀ l : List Int, l.take (cutH c l).length = cutH c l
  | [] => rfl
  | a :: l => by
    unfold cutH
    cases a == c
    · simp only [cond_false, List.length_cons, List.take_succ_cons, cut_take c l]
    · rfl
theorem cut_drop (c : Int) : ∀ l : List Int, hasC c l = true → l.drop ((cutH c l).length + 1) = cutT c l ∧ (cutH c l).length + 1 ≤ l.length
  | [], h => by cases h
  | a :: l, h => by
    unfold hasC at h
    unfold cutH cutT
    cases e : a == c
    · rw [e, Bool.false_or] at h
      have := cut_drop c l h
      simp only [cond_false, List.length_cons, List.drop_succ_cons]
      exact ⟨this.1, by omega⟩
    · simp
def cCutPrefix : List SV → List (Option SB) → Option (Bool × SV × List (Option SB) × List Nat)
  | [.str s, .str t], [] => some (t == ⟨#[45]⟩, .tup [.str (bytesOf (minusL (listOf s))), .bool (minusB (listOf s))], [], [])
  | _, _ => none
def cCut : List SV → List (Option SB) → Option (Bool × SV × List (Option SB) × List Nat)
  | [.str s, .str t], [] => some (t == ⟨#[46]⟩, .tup [.str (bytesOf (cutH 46 (listOf s))), .str (bytesOf (cutT 46 (listOf s))), .bool (hasC 46 (listOf s))], [], [])
  | _, _ => none
def cNumber : List SV → List (Option SB) → Out
  | [.str s, .int .i64 m], [] => some (.tup [.int .i64 (numN (listOf s) m), .bool (numB (listOf s) m)], [], [])
  | _, _ => none
def cRepeat : List SV → List (Option SB) → Option (Bool × SV × List (Option SB) × List Nat)
  | [.str s, .int .i64 k], [] => some (s == ⟨#[48]⟩ && (decide (0 ≤ k) && decide (k ≤ 9)), .str (bytesOf (List.replicate k.toNat 48)), [], [])
  | _, _ => none
theorem cutPrefix_law {l : List Int} {K : KC} (hb : inByte l) (hK : K (.tup [.str (bytesOf (minusL l)), .bool (minusB l)]) [] []) :
    Br (decide (((bytesOf l).size : Int) ≥ 1)) (If (true && (true && decide ((1 : Int) ≤ ((bytesOf l).size : Int)))) (Br (!((bytesOf l).extract 0 1 == ⟨#[45]⟩)) (K (.tup [.str (bytesOf l), .bool false]) [] [])
      (If (true && (decide ((1 : Int) ≤ ((bytesOf l).size : Int)) && decide (((bytesOf l).size : Int) ≤ ((bytesOf l).size : Int)))) (K (.tup [.str ((bytesOf l).extract 1 ((bytesOf l).size : Int).toNat), .bool true]) [] []))))
      (K (.tup [.str (bytesOf l), .bool false]) [] []) := by
  rw [bytes_size]
  cases l with
  | nil => exact Br.of (fun c => by have := of_decide_eq_true c; simp at this) fun _ => hK
  | cons a l =>
    have ha : inByte [a] := fun x hx => hb x (by rcases List.mem_singleton.1 hx with rfl; exact List.mem_cons_self ..)
    rw [extract_bytes, extract_bytes, show (⟨#[45]⟩ : ByteArray) = bytesOf [45] from rfl]
    simp only [List.drop_zero, List.take_succ_cons, List.take_zero, List.drop_succ_cons, Nat.sub_zero]
    rw [beq_bytes ha (fun x hx => by rcases List.mem_singleton.1 hx with rfl; omega), Int.toNat_natCast, List.length_cons, Nat.add_sub_cancel, List.take_length]
    refine Br.of (fun c => If.mk (by simpa using c) (Br.of (fun e => ?_) fun e => If.mk (by simpa using c) ?_)) fun c => ?_
    · have : ¬ a = 45 := by simpa using e
      have hm : minusB (a :: l) = false := by
        show (a == 45) = false
        simpa using this
      unfold minusL at hK
      rw [hm] at hK
      exact hK
    · have : a = 45 := by simpa using e
      subst this
      exact hK
    · have := of_decide_eq_false c
      simp at this
      omega
theorem cut_law {l : List Int} {K : KC} (hb : inByte l) (hl : l.length < 9223372036854775808) (hK : K (.tup [.str (bytesOf (cutH 46 l)), .str (bytesOf (cutT 46 l)), .bool (hasC 46 l)]) [] []) :
    Br ((⟨#[46]⟩ : ByteArray) == bytesOf l) (If (true && (decide ((1 : Int) ≤ ((bytesOf l).size : Int)) && decide (((bytesOf l).size : Int) ≤ ((bytesOf l).size : Int)))) (K (.tup [.str ((bytesOf l).extract 0 0), .str ((bytesOf l).extract 1 ((bytesOf l).size : Int).toNat), .bool true]) [] []))
      (Br (decide (idxB (bytesOf l) 46 ≥ 0)) (If (true && (decide ((0 : Int) ≤ idxB (bytesOf l) 46) && decide (idxB (bytesOf l) 46 ≤ ((bytesOf l).size : Int))))
        (If (decide (0 ≤ IntKind.i64.wrap (idxB (bytesOf l) 46 + 1)) && (decide (IntKind.i64.wrap (idxB (bytesOf l) 46 + 1) ≤ ((bytesOf l).size : Int)) && decide (((bytesOf l).size : Int) ≤ ((bytesOf l).size : Int))))
          (K (.tup [.str ((bytesOf l).extract 0 (idxB (bytesOf l) 46).toNat), .str ((bytesOf l).extract (IntKind.i64.wrap (idxB (bytesOf l) 46 + 1)).toNat ((bytesOf l).size : Int).toNat), .bool true]) [] [])))
        (K (.tup [.str (bytesOf l), .str ⟨#[]⟩, .bool false]) [] [])) := by
  rw [idxB_bytes hb (by decide) (by decide), idxFrom_cut, bytes_size]
  refine Br.of (fun c => ?_) fun _ => ?_
  · have hl1 : l = [46] := by
      rw [ba_beq, beq_iff_eq] at c
      have c : bytesOf [46] = bytesOf l := ByteArray.ext c
      have := congrArg listOf c
      rw [list_bytes hb, list_bytes (fun x hx => by rcases List.mem_singleton.1 hx with rfl; omega)] at this
      exact this.symm
    subst hl1
    exact If.mk rfl hK
  · cases hh : hasC 46 l with
    | false =>
      rw [hh, cutH_none _ _ hh, cutT_none _ _ hh] at hK
      refine Br.of (fun c => ?_) fun _ => hK
      have := of_decide_eq_true c
      simp at this
    | true =>
      obtain ⟨h1, h2⟩ := cut_drop 46 l hh
      have h3 := cut_take 46 l
      rw [hh] at hK
      simp only [cond_true, Nat.zero_add]
      have hw : IntKind.i64.wrap ((((cutH 46 l).length : Nat) : Int) + 1) = (((cutH 46 l).length + 1 : Nat) : Int) := by rw [wi64]; omega
      rw [hw, extract_bytes, extract_bytes]
      simp only [Int.toNat_natCast, List.drop_zero, Nat.sub_zero]
      rw [h3, h1, show (cutT 46 l).take (l.length - ((cutH 46 l).length + 1)) = cutT 46 l by rw [← h1, ← List.length_drop, List.take_length]]
      refine Br.of (fun _ => If.mk ?_ (If.mk ?_ hK)) fun c => ?_
      · simp only [Bool.true_and, Bool.and_eq_true, decide_eq_true_eq]; omega
      · simp only [Bool.and_eq_true, decide_eq_true_eq]; omega
      · have := of_decide_eq_false c
        omega
end Go.Se
namespace Go.Se
def padR (l : List Int) : List Int := l ++ List.replicate (10 - l.length) 48
def restN (l : List Int) : Int := bif numB l 10 then numN (padR l) 10 else 0
def restB (l : List Int) : Bool := bif numB l 10 then numB (padR l) 10 else false
def cRest : List SV → List (Option SB) → Out
  | [.str s], [] => some (.tup [.int .i64 (restN (listOf s)), .bool (restB (listOf s))], [], [])
  | _, _ => none
theorem numB_len {l : List Int} {m : Int} (h : numB l m = true) : 1 ≤ l.length ∧ (l.length : Int) ≤ m := by
  unfold numB at h
  cases hg : numG l m with
  | true => rw [hg] at h; cases h
  | false =>
    unfold numG at hg
    rw [Bool.or_eq_false_iff] at hg
    have a := of_decide_eq_false hg.1
    have b := of_decide_eq_false hg.2
    omega
theorem pad_inByte {l : List Int} (h : inByte l) (n : Nat) : inByte (l ++ List.replicate n 48) := fun x hx => by
  rcases List.mem_append.1 hx with hx | hx
  · exact h x hx
  · rw [List.eq_of_mem_replicate hx]; omega
def rdF (Z : Int) (K : KC) : Prop :=
  Br (Z / 18446744073709551616 != (IntKind.i64.wrap (Z % 18446744073709551616)).fdiv (2 ^ min (63 : Int).toNat IntKind.i64.bits)) (K (.tup [.int .i64 0, .int .i64 2]) [] []) (K (.tup [.int .i64 (IntKind.i64.wrap (Z % 18446744073709551616)), .int .i64 0]) [] [])
def rdS (a b : Int) : Int := bif in128 (wv (a / 18446744073709551616) (a % 18446744073709551616) + wv (b / 18446744073709551616) (b % 18446744073709551616)) then wv (a / 18446744073709551616) (a % 18446744073709551616) + wv (b / 18446744073709551616) (b % 18446744073709551616) else 0
def rdM (a : Int) : Int := bif in128 (-wv (a / 18446744073709551616) (a % 18446744073709551616)) then -wv (a / 18446744073709551616) (a % 18446744073709551616) else 0
def rdW (neg : Bool) (n f : Int) (K : KC) : Prop :=
  (fun X => Br neg (rdF (rdM X) K) (rdF X K)) (rdS (n * 4294967296) (divV (wv (f * 4294967296 / 18446744073709551616) (f * 4294967296 % 18446744073709551616)) 10000000000))
def rdQ (neg ok : Bool) (n f : Int) (K : KC) : Prop := Br (!ok) (K (.tup [.int .i64 0, .int .i64 24]) [] []) (rdW neg n f K)
def rdR (neg ok pt rb : Bool) (n f : Int) (K : KC) : Prop := Br ok (Br pt (rdQ neg rb n f K) (rdQ neg ok n 0 K)) (rdQ neg ok n 0 K)
def lsB (l : List Int) : List Int := listOf (bytesOf l)
def rdP (s : ByteArray) (K : KC) : Prop :=
  (fun l => rdR (minusB (listOf s)) (numB (lsB (cutH 46 l)) 10) (hasC 46 l) (restB (lsB (cutT 46 l))) (numN (lsB (cutH 46 l)) 10) (restN (lsB (cutT 46 l))) K) (lsB (minusL (listOf s)))
end Go.Se
namespace Go.Se
theorem textL_eq (n : Int) : textL n = signL n ++ (digL10 (absI n / 4294967296) 1 ++ fracL (absI n)) := rfl
theorem frac_inByte {u : Int} (hu : 0 ≤ u) : inByte (fracL u) := fun x hx => by
  unfold fracL at hx
  cases h : fracT u == 0
  · rw [h] at hx
    rcases List.mem_cons.1 hx with rfl | hx
    · omega
    · exact digits_inByte (fracT_range hu).1 x (trimL_sub hx)
  · rw [h] at hx; cases hx
theorem app_inByte {a b : List Int} (ha : inByte a) (hb : inByte b) : inByte (a ++ b) := fun x hx => by
  rcases List.mem_append.1 hx with hx | hx
  · exact ha x hx
  · exact hb x hx
theorem sign_inByte (n : Int) : inByte (signL n) := fun x hx => by
  unfold signL at hx
  cases h : decide (n < 0)
  · rw [h] at hx; cases hx
  · rw [h] at hx
    rcases List.mem_singleton.1 hx with rfl
    omega
theorem minus_sign {n : Int} {l m : List Int} (hd : allD l) (h1 : 1 ≤ l.length) : minusB (signL n ++ (l ++ m)) = decide (n < 0) ∧ minusL (signL n ++ (l ++ m)) = l ++ m := by
  unfold signL
  cases h : decide (n < 0)
  · simp only [cond_false, List.nil_append]
    exact minus_digits hd h1
  · exact ⟨rfl, rfl⟩
theorem lsB_eq {l : List Int} (h : inByte l) : lsB l = l := list_bytes h
theorem rdF_law {n : Int} {K : KC} (h0 : -9223372036854775808 ≤ n) (h1 : n ≤ 9223372036854775807) (hK : K (.tup [.int .i64 n, .int .i64 0]) [] []) : rdF n K := by
  unfold rdF
  have hw : IntKind.i64.wrap (n % 18446744073709551616) = n := by rw [wi64]; omega
  have hd : n.fdiv (2 ^ min (63 : Int).toNat IntKind.i64.bits) = n / 9223372036854775808 := by
    show n.fdiv 9223372036854775808 = _
    exact fdiv_pos _ (by decide)
  rw [hw, hd]
  refine Br.of (fun c => ?_) fun _ => hK
  have := bne_iff_ne.1 c
  omega
theorem rdW_law {n : Int} {K : KC} (h0 : -9223372036854775808 ≤ n) (h1 : n ≤ 9223372036854775807) (hK : K (.tup [.int .i64 n, .int .i64 0]) [] []) :
    rdW (decide (n < 0)) (absI n / 4294967296) (fracT (absI n)) K := by
  have ha := absI_nonneg n
  have hb : absI n < 9223372036854775809 := absI_lt (by omega) (by omega)
  have hin : ∀ x : Int, -9223372036854775809 < x → x < 9223372036854775809 → in128 x = true := fun x a b => (in128_iff x).2 (by omega)
  have hX : rdS (absI n / 4294967296 * 4294967296) (absI n % 4294967296) = absI n := by
    unfold rdS
    rw [wv_wide, wv_wide, show absI n / 4294967296 * 4294967296 + absI n % 4294967296 = absI n by omega, hin _ (by omega) hb]; rfl
  unfold rdW
  rw [wv_wide, frac_back ha]
  show Br _ _ _
  rw [hX]
  have habs : (decide (n < 0) = true ∧ absI n = -n) ∨ (decide (n < 0) = false ∧ absI n = n) := by
    unfold absI
    cases h : decide (n < 0)
    · exact .inr ⟨rfl, rfl⟩
    · exact .inl ⟨rfl, rfl⟩
  refine Br.of (fun c => ?_) fun c => ?_
  · rcases habs with ⟨_, h⟩ | ⟨h, _⟩
    · have : rdM (absI n) = n := by
        unfold rdM
        rw [wv_wide, hin _ (by omega) (by omega)]
        simp only [cond_true]; omega
      rw [this]
      exact rdF_law h0 h1 hK
    · rw [h] at c; cases c
  · rcases habs with ⟨h, _⟩ | ⟨_, h⟩
    · rw [h] at c; cases c
    · rw [h]
      exact rdF_law h0 h1 hK
theorem read_law {n : Int} {K : KC} (h0 : -9223372036854775808 ≤ n) (h1 : n ≤ 9223372036854775807) (hK : K (.tup [.int .i64 n, .int .i64 0]) [] []) : rdP (bytesOf (textL n)) K := by
  have ha := absI_nonneg n
  have hb : absI n < 9223372036854775809 := absI_lt (by omega) (by omega)
  have hw0 : 0 ≤ absI n / 4294967296 := by omega
  have hWd : allD (digL10 (absI n / 4294967296) 1) := digL10_digits hw0
  have hWb := digits_inByte (least := 1) hw0
  have hW1 := digL10_min (absI n / 4294967296)
  have hW2 := digL10_small (k := 10) hw0 (show absI n / 4294967296 < 10 ^ 10 by omega) (by decide)
  have hFb := frac_inByte ha
  have hbL := app_inByte (sign_inByte n) (app_inByte hWb hFb)
  obtain ⟨m1, m2⟩ := minus_sign (n := n) (m := fracL (absI n)) hWd hW1
  have hnum := num_ok (most := 10) hWd hW1 (by omega) (by omega)
  have hval := valD_digL10 (least := 1) hw0 (show absI n / 4294967296 < 18446744073709551616 by omega)
  unfold rdP
  rw [textL_eq, list_bytes hbL, m1, m2, lsB_eq (app_inByte hWb hFb)]
  show rdR _ _ _ _ _ _ _
  cases hf : fracT (absI n) == 0 with
  | true =>
    have hF : fracL (absI n) = [] := by unfold fracL; rw [hf]; rfl
    have hf0 : fracT (absI n) = 0 := by simpa using hf
    rw [hF, List.append_nil, cutH_none 46 _ (hasC_digits (by decide) _ hWd), hasC_digits (by decide) _ hWd, lsB_eq hWb, hnum.1, hnum.2, hval]
    have := rdW_law h0 h1 hK
    rw [hf0] at this
    exact this
  | false =>
    have hF : fracL (absI n) = 46 :: trimL (digL10 (fracT (absI n)) 10) := by unfold fracL; rw [hf]; rfl
    have hne : fracT (absI n) ≠ 0 := by simpa using hf
    have hfr := fracT_range ha
    have hflt := fracT_lt ha
    have hpos : 0 < fracT (absI n) := by omega
    obtain ⟨c1, c2, c3⟩ := cut_digits (c := 46) (by decide) _ (trimL (digL10 (fracT (absI n)) 10)) hWd
    rw [hF, c1, c2, c3, lsB_eq hWb, hnum.1, hnum.2, hval]
    have htb : inByte (trimL (digL10 (fracT (absI n)) 10)) := fun x hx => digits_inByte hfr.1 x (trimL_sub hx)
    have htd : allD (trimL (digL10 (fracT (absI n)) 10)) := fun x hx => digL10_digits hfr.1 x (trimL_sub hx)
    have hdd : allD (digL10 (fracT (absI n)) 10) := digL10_digits hfr.1
    have hlen : (digL10 (fracT (absI n)) 10).length = 10 := by
      rw [digL10_pad hpos (by omega)]
      exact padTo_len (by have := digL10_small (k := 10) hfr.1 (show fracT (absI n) < 10 ^ 10 by omega) (by decide); omega)
    have htl := trimL_length (digL10 (fracT (absI n)) 10)
    have ht1 : 1 ≤ (trimL (digL10 (fracT (absI n)) 10)).length := by
      have := rdrop_some (r := (digL10 (fracT (absI n)) 10).reverse) (by
        obtain ⟨x, hx, hx'⟩ := digA_some 20 (fracT (absI n)) 10 0 [] hpos (by omega)
        exact ⟨x, by simpa [digL10] using hx, hx'⟩)
      unfold trimL
      rw [List.length_reverse]
      exact List.length_pos_iff.2 this
    have hpad : padR (trimL (digL10 (fracT (absI n)) 10)) = digL10 (fracT (absI n)) 10 := by
      have := trimL_pad (digL10 (fracT (absI n)) 10)
      rw [hlen] at this
      exact this
    have n1 := num_ok (most := 10) htd ht1 (by omega) (by omega)
    have n2 := num_ok (most := 10) hdd (by omega) (by omega) (by omega)
    have hv2 := valD_digL10 (least := 10) hfr.1 (show fracT (absI n) < 18446744073709551616 by omega)
    have hrb : restB (trimL (digL10 (fracT (absI n)) 10)) = true := by unfold restB; rw [n1.1, hpad, n2.1]; rfl
    have hrn : restN (trimL (digL10 (fracT (absI n)) 10)) = fracT (absI n) := by unfold restN; rw [n1.1, hpad, n2.2, hv2]; rfl
    rw [lsB_eq htb, hrb, hrn]
    exact rdW_law h0 h1 hK
end Go.Se
namespace Go.Se
theorem whole_law {n : Int} {K : KC} (h0 : -999999999999999999 ≤ n) (h1 : n ≤ 999999999999999999) (hK : K (.tup [.int .i64 n, .int .i64 0]) [] []) :
    Br (!numB (lsB (minusL (listOf (bytesOf (wholeL n))))) 18) (K (.tup [.int .i64 0, .int .i64 24]) [] []) (Br (minusB (listOf (bytesOf (wholeL n)))) (K (.tup [.int .i64 (IntKind.i64.wrap (0 - numN (lsB (minusL (listOf (bytesOf (wholeL n))))) 18)), .int .i64 0]) [] []) (K (.tup [.int .i64 (numN (lsB (minusL (listOf (bytesOf (wholeL n))))) 18), .int .i64 0]) [] [])) := by
  have ha := absI_nonneg n
  have hb : absI n < 1000000000000000000 := absI_lt (by omega) (by omega)
  have hWd : allD (digL10 (absI n) 1) := digL10_digits ha
  have hWb := digits_inByte (least := 1) ha
  have hW1 := digL10_min (absI n)
  have hW2 := digL10_small (k := 18) ha (show absI n < 10 ^ 18 by omega) (by decide)
  have hw : wholeL n = signL n ++ (digL10 (absI n) 1 ++ []) := by rw [List.append_nil]; rfl
  obtain ⟨m1, m2⟩ := minus_sign (n := n) (m := []) hWd hW1
  have hnum := num_ok (most := 18) hWd hW1 (by omega) (by omega)
  have hval := valD_digL10 (least := 1) ha (show absI n < 18446744073709551616 by omega)
  have hnil : inByte [] := fun x hx => by cases hx
  rw [hw, list_bytes (app_inByte (sign_inByte n) (app_inByte hWb hnil)), m1, m2, List.append_nil, lsB_eq hWb, hnum.1, hnum.2, hval]
  have habs : (decide (n < 0) = true ∧ absI n = -n) ∨ (decide (n < 0) = false ∧ absI n = n) := by
    unfold absI
    cases h : decide (n < 0)
    · exact .inr ⟨rfl, rfl⟩
    · exact .inl ⟨rfl, rfl⟩
  refine Br.of (fun c => by cases c) fun _ => Br.of (fun c => ?_) fun c => ?_
  · rcases habs with ⟨_, h⟩ | ⟨h, _⟩
    · rw [h, show IntKind.i64.wrap (0 - -n) = n by rw [wi64]; omega]
      exact hK
    · rw [h] at c; cases c
  · rcases habs with ⟨h, _⟩ | ⟨_, h⟩
    · rw [h] at c; cases c
    · rw [h]; exact hK
def cRead (xs : List SV) (σ : List (Option SB)) (K : KC) : Prop :=
  ∃ n : Int, (xs = [.str (bytesOf (textL n))] ∧ σ = [] ∧ -9223372036854775808 ≤ n ∧ n ≤ 9223372036854775807) ∧ K (.tup [.int .i64 n, .int .i64 0]) [] []
def cReadWhole (xs : List SV) (σ : List (Option SB)) (K : KC) : Prop :=
  ∃ n : Int, (xs = [.str (bytesOf (wholeL n))] ∧ σ = [] ∧ -999999999999999999 ≤ n ∧ n ≤ 999999999999999999) ∧ K (.tup [.int .i64 n, .int .i64 0]) [] []
end Go.Se

