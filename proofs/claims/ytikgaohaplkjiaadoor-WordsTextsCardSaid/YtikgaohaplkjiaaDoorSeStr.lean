/- Part 40: numbers as texts: plain. -/
import Derived.Test.YtikgaohaplkjiaaDoorSeArith
namespace Go.Se
def digA : Nat → Int → Int → Int → List Int → List Int
  | 0, _, _, _, l => l
  | f + 1, u, least, j, l => bif decide (u > 0) || decide (j < least) then digA f (u / 10) least (j + 1) ((48 + u % 10) :: l) else l
/-- A number's digits, so many at least. -/
def digL10 (u least : Int) : List Int := digA 20 u least 0 []
theorem bytes_append (a b : List Int) : bytesOf a ++ bytesOf b = bytesOf (a ++ b) := by
  unfold bytesOf
  apply ByteArray.ext
  simp
theorem bytes_size (a : List Int) : (bytesOf a).size = a.length := by simp [bytesOf, ByteArray.size]
def cDigits : List SV → List (Option SB) → Option (Bool × SV × List (Option SB) × List Nat)
  | [.int .u64 u, .int .i64 least], [] => some (decide (least ≤ 20), .str (bytesOf (digL10 u least)), [], [])
  | _, _ => none
def cDigitsR : List SV → List (Option SB) → Out
  | [.int .u64 u], [] => some (.str (bytesOf (digL10 u 1)), [], [])
  | _, _ => none
end Go.Se
namespace Go.Se
theorem ba_beq (a b : ByteArray) : (a == b) = (a.data == b.data) := rfl
theorem digA_succ (f : Nat) (u least j : Int) (l : List Int) : digA (f + 1) u least j l = bif decide (u > 0) || decide (j < least) then digA f (u / 10) least (j + 1) ((48 + u % 10) :: l) else l := rfl
theorem bytes_nil (l : List Int) : (bytesOf l == ⟨#[]⟩) = decide (l.length < 1) := by
  rw [Bool.eq_iff_iff, ba_beq, beq_iff_eq, decide_eq_true_eq]
  constructor
  · intro h
    have h : bytesOf l = ⟨#[]⟩ := ByteArray.ext h
    have := congrArg ByteArray.size h
    rw [bytes_size] at this
    simp [ByteArray.size] at this
    simp [this]
  · intro h
    have : l = [] := by cases l with
      | nil => rfl
      | cons a l => simp at h
    subst this; rfl
theorem digA_length : ∀ (f : Nat) (u least j : Int) (l : List Int), (digA f u least j l).length ≤ l.length + f
  | 0, _, _, _, l => by simp [digA]
  | f + 1, u, least, j, l => by
    unfold digA
    cases decide (u > 0) || decide (j < least)
    · simp only [cond_false]; omega
    · simp only [cond_true]
      have := digA_length f (u / 10) least (j + 1) ((48 + u % 10) :: l)
      simp only [List.length_cons] at this
      omega
end Go.Se
namespace Go.Se
/-- A text's bytes as numbers. -/
def listOf (s : ByteArray) : List Int := s.data.toList.map fun b => (b.toNat : Int)
def rdrop : List Int → List Int
  | [] => []
  | a :: r => bif a == 48 then rdrop r else a :: r
/-- Without noughts at the end. -/
def trimL (l : List Int) : List Int := (rdrop l.reverse).reverse
def trimB (s : ByteArray) : ByteArray := bytesOf (trimL (listOf s))
def inByte (l : List Int) : Prop := ∀ x, x ∈ l → 0 ≤ x ∧ x ≤ 255
theorem bytes_list (s : ByteArray) : bytesOf (listOf s) = s := by
  unfold bytesOf listOf
  apply ByteArray.ext
  rw [List.map_map]
  have : ((fun n : Int => UInt8.ofNat n.toNat) ∘ fun b : UInt8 => (b.toNat : Int)) = id := by
    funext b
    simp
  rw [this, List.map_id]
theorem list_bytes {l : List Int} (h : inByte l) : listOf (bytesOf l) = l := by
  unfold bytesOf listOf
  simp only [List.map_map]
  conv => rhs; rw [← List.map_id l]
  refine List.map_congr_left fun x hx => ?_
  have := h x hx
  simp only [Function.comp, id_eq, UInt8.toNat_ofNat']
  omega
theorem list_inByte (s : ByteArray) : inByte (listOf s) := fun x hx => by
  unfold listOf at hx
  obtain ⟨b, _, rfl⟩ := List.mem_map.1 hx
  have := b.toNat_lt
  omega
def lastB (s : ByteArray) : Int := ((s.data.getD (IntKind.i64.wrap ((s.size : Int) - 1)).toNat 0).toNat : Int)
def cutB (s : ByteArray) : ByteArray := s.extract ((0 : Nat) : Int).toNat (IntKind.i64.wrap ((s.size : Int) - 1)).toNat
theorem last_size {a : Int} {r : List Int} (h : (a :: r).length < 9223372036854775808) : (IntKind.i64.wrap (((bytesOf (a :: r).reverse).size : Int) - 1)) = (r.length : Int) := by
  rw [bytes_size, wi64]
  simp only [List.length_reverse, List.length_cons] at h ⊢
  omega
theorem last_bytes {a : Int} {r : List Int} (h : (a :: r).length < 9223372036854775808) (ha : 0 ≤ a) (ha' : a ≤ 255) : lastB (bytesOf (a :: r).reverse) = a := by
  unfold lastB
  rw [last_size h]
  have : (bytesOf (a :: r).reverse).data = ((r.reverse.map fun n => UInt8.ofNat n.toNat) ++ [UInt8.ofNat a.toNat]).toArray := by simp [bytesOf]
  rw [this]
  simp only [Int.toNat_natCast, Array.getD_eq_getD_getElem?, List.getElem?_toArray]
  rw [List.getElem?_append_right (by simp)]
  simp
  omega
theorem cut_bytes {a : Int} {r : List Int} (h : (a :: r).length < 9223372036854775808) : cutB (bytesOf (a :: r).reverse) = bytesOf r.reverse := by
  unfold cutB
  rw [last_size h]
  apply ByteArray.ext
  simp only [bytesOf, ByteArray.data_extract, List.reverse_cons, List.map_append, List.map_cons, List.map_nil, Int.toNat_natCast]
  simp
theorem digA_inByte : ∀ (f : Nat) (u least j : Int) (l : List Int), 0 ≤ u → (∀ x, x ∈ l → 48 ≤ x ∧ x ≤ 57) → ∀ x, x ∈ digA f u least j l → 48 ≤ x ∧ x ≤ 57
  | 0, _, _, _, l, _, h => h
  | f + 1, u, least, j, l, hu, h => by
    rw [digA_succ]
    cases decide (u > 0) || decide (j < least)
    · exact h
    · refine digA_inByte f (u / 10) least (j + 1) _ (by omega) fun x hx => ?_
      rcases List.mem_cons.1 hx with rfl | hx
      · omega
      · exact h x hx
theorem digL10_digits {u least : Int} (hu : 0 ≤ u) : ∀ x, x ∈ digL10 u least → 48 ≤ x ∧ x ≤ 57 := digA_inByte 20 u least 0 [] hu fun x hx => by cases hx
theorem digA_keeps (x : Int) : ∀ (f : Nat) (u least j : Int) (l : List Int), x ∈ l → x ∈ digA f u least j l
  | 0, _, _, _, l, h => h
  | f + 1, u, least, j, l, h => by
    rw [digA_succ]
    cases decide (u > 0) || decide (j < least)
    · exact h
    · exact digA_keeps x f _ _ _ _ (List.mem_cons_of_mem _ h)
theorem digA_some : ∀ (f : Nat) (u least j : Int) (l : List Int), 0 < u → u < 10 ^ f → ∃ x, x ∈ digA f u least j l ∧ x ≠ 48
  | 0, u, _, _, _, h0, h1 => by simp at h1; omega
  | f + 1, u, least, j, l, h0, h1 => by
    rw [digA_succ, decide_eq_true h0]
    simp only [Bool.true_or, cond_true]
    have hp : (10 : Int) ^ (f + 1) = 10 ^ f * 10 := Int.pow_succ 10 f
    by_cases h : u % 10 = 0
    · exact digA_some f (u / 10) least (j + 1) _ (by omega) (by omega)
    · exact ⟨48 + u % 10, digA_keeps _ _ _ _ _ _ (List.mem_cons_self ..), by omega⟩
def padTo (l : List Int) : List Int := List.replicate (10 - l.length) 48 ++ l
theorem padTo_cons (l : List Int) (h : l.length < 10) : padTo (48 :: l) = padTo l := by
  unfold padTo
  rw [List.length_cons, show 10 - l.length = (10 - (l.length + 1)) + 1 by omega, List.replicate_succ']
  simp
theorem digA_nought : ∀ (f : Nat) (j : Nat) (l : List Int), l.length = j → j + f = 20 → digA f 0 10 j l = padTo l
  | 0, j, l, hl, hj => by
    unfold padTo
    rw [show 10 - l.length = 0 by omega]; rfl
  | f + 1, j, l, hl, hj => by
    rw [digA_succ, show decide ((0 : Int) > 0) = false from rfl, Bool.false_or]
    by_cases h : j < 10
    · rw [decide_eq_true (show (j : Int) < 10 by omega)]
      have := digA_nought f (j + 1) (48 :: l) (by simp [hl]) (by omega)
      push_cast at this
      simp only [cond_true]
      rw [show (0 : Int) / 10 = 0 by decide, show (48 + (0 : Int) % 10) = 48 by decide, this]
      exact padTo_cons l (by omega)
    · rw [decide_eq_false (show ¬ (j : Int) < 10 by omega)]
      simp only [cond_false]
      unfold padTo
      rw [show 10 - l.length = 0 by omega]; rfl
theorem digA_pad : ∀ (f : Nat) (u : Int) (j : Nat) (l : List Int), l.length = j → j + f = 20 → 0 ≤ u → u < 10 ^ f → (0 < u ∨ 1 ≤ j) → digA f u 10 j l = padTo (digA f u 1 j l)
  | 0, u, j, l, hl, hj, h0, h1, h2 => by
    unfold padTo
    show l = List.replicate (10 - l.length) 48 ++ l
    rw [show 10 - l.length = 0 by omega]; rfl
  | f + 1, u, j, l, hl, hj, h0, h1, h2 => by
    have hp : (10 : Int) ^ (f + 1) = 10 ^ f * 10 := Int.pow_succ 10 f
    by_cases hu : 0 < u
    · rw [digA_succ, digA_succ, decide_eq_true (show u > 0 from hu)]
      simp only [Bool.true_or, cond_true]
      have := digA_pad f (u / 10) (j + 1) ((48 + u % 10) :: l) (by simp [hl]) (by omega) (by omega) (by omega) (.inr (by omega))
      push_cast at this
      exact this
    · have : u = 0 := by omega
      subst this
      rw [digA_nought (f + 1) j l hl hj, digA_succ, show decide ((0 : Int) > 0) = false from rfl, decide_eq_false (show ¬ (j : Int) < 1 by omega)]
      rfl
theorem digL10_pad {u : Int} (h0 : 0 < u) (h1 : u < 18446744073709551616) : digL10 u 10 = padTo (digL10 u 1) :=
  digA_pad 20 u 0 [] rfl rfl (by omega) (by omega) (.inl h0)
theorem rdrop_some : ∀ {r : List Int}, (∃ x, x ∈ r ∧ x ≠ 48) → rdrop r ≠ []
  | [], ⟨x, h, _⟩ => nomatch h
  | a :: r, ⟨x, h, hx⟩ => by
    unfold rdrop
    by_cases ha : a = 48
    · subst ha
      rcases List.mem_cons.1 h with rfl | h
      · exact absurd rfl hx
      · exact rdrop_some ⟨x, h, hx⟩
    · rw [show (a == 48) = false by simpa using ha]
      simp
def fracT (u : Int) : Int := divV (u % 4294967296 * 10000000000) 4294967296
def signL (n : Int) : List Int := bif decide (n < 0) then [45] else []
def wholeL (n : Int) : List Int := signL n ++ digL10 (absI n) 1
def textL (n : Int) : List Int :=
  signL n ++ (digL10 (absI n / 4294967296) 1 ++ bif fracT (absI n) == 0 then [] else 46 :: trimL (digL10 (fracT (absI n)) 10))
theorem fracT_range {u : Int} (hu : 0 ≤ u) : 0 ≤ fracT u ∧ fracT u ≤ 10000000000 := by
  unfold fracT divV divGood divN rneQ
  have h0 : 0 ≤ u % 4294967296 * 10000000000 := by omega
  have h1 : u % 4294967296 * 10000000000 ≤ 4294967295 * 10000000000 := by omega
  rw [show absI (u % 4294967296 * 10000000000) = u % 4294967296 * 10000000000 by unfold absI; rw [decide_eq_false (show ¬ u % 4294967296 * 10000000000 < 0 by omega)]; rfl]
  rw [show absI 4294967296 = 4294967296 by decide, decide_eq_false (show ¬ u % 4294967296 * 10000000000 < 0 by omega)]
  generalize u % 4294967296 * 10000000000 = p at *
  rw [show (false != decide ((4294967296 : Int) < 0)) = false by decide]
  simp only [cond_false]
  cases hc : (decide (p % 4294967296 > 4294967296 - p % 4294967296) || (p % 4294967296 == 4294967296 - p % 4294967296 && p / 4294967296 % 2 == 1)) && decide (p % 4294967296 > 0)
  · simp only [cond_false]
    cases hg : ((4294967296 : Int) != 0 && in64 (p / 4294967296))
    · simp only [cond_false]; omega
    · simp only [cond_true]; omega
  · simp only [cond_true]
    cases hg : ((4294967296 : Int) != 0 && in64 (p / 4294967296 + 1))
    · simp only [cond_false]; omega
    · simp only [cond_true]; omega
end Go.Se
namespace Go.Se
theorem list_length (s : ByteArray) : (listOf s).length = s.size := by
  unfold listOf
  rw [List.length_map, Array.length_toList]; rfl
end Go.Se
namespace Go.Se
theorem rdrop_length : ∀ r : List Int, (rdrop r).length ≤ r.length
  | [] => Nat.le_refl _
  | a :: r => by
    unfold rdrop
    cases a == 48
    · exact Nat.le_refl _
    · have := rdrop_length r
      simp only [cond_true, List.length_cons]; omega
theorem trimL_length (l : List Int) : (trimL l).length ≤ l.length := by
  unfold trimL
  have := rdrop_length l.reverse
  rw [List.length_reverse] at this ⊢
  exact this
theorem digits_inByte {u least : Int} (hu : 0 ≤ u) : inByte (digL10 u least) := fun x hx => by
  have := digL10_digits hu x hx
  omega
theorem trimB_bytes {l : List Int} (h : inByte l) : trimB (bytesOf l) = bytesOf (trimL l) := by
  unfold trimB
  rw [list_bytes h]
theorem digL10_length (u least : Int) : (digL10 u least).length ≤ 20 := by
  have := digA_length 20 u least 0 []
  rw [List.length_nil, Nat.zero_add] at this
  exact this
def m32b (x : Int) : Int := IntKind.u64.wrap ↑(BitVec.ofInt IntKind.u64.bits x &&& BitVec.ofInt IntKind.u64.bits 4294967295).toNat
def textT (sg : ByteArray) (u : Int) (K : KC) : Prop :=
  (fun h p => If (decide (sg.size + h.size < 9223372036854775808)) ((fun d => Br (decide (d > 0)) (If (decide ((⟨#[46]⟩ : ByteArray).size + (trimB (bytesOf (digL10 (IntKind.u64.wrap d) 10))).size < 9223372036854775808))
      (If (decide ((sg ++ h).size + ((⟨#[46]⟩ : ByteArray) ++ trimB (bytesOf (digL10 (IntKind.u64.wrap d) 10))).size < 9223372036854775808)) (K (.str ((sg ++ h) ++ ((⟨#[46]⟩ : ByteArray) ++ trimB (bytesOf (digL10 (IntKind.u64.wrap d) 10))))) [] [])))
    (K (.str (sg ++ h)) [] [])) (divV (wv (p / 18446744073709551616) (p % 18446744073709551616)) 4294967296)))
    (bytesOf (digL10 (u.fdiv (2 ^ min (32 : Int).toNat IntKind.u64.bits)) 1)) (IntKind.i64.wrap (m32b u) * 10000000000)
def fracL (u : Int) : List Int := bif fracT u == 0 then [] else 46 :: trimL (digL10 (fracT u) 10)
theorem textT_law {sg : List Int} {u : Int} {K : KC} (h0 : 0 ≤ u) (h1 : u ≤ 9223372036854775808) (hs : sg.length ≤ 1)
    (hK : K (.str (bytesOf (sg ++ (digL10 (u / 4294967296) 1 ++ fracL u)))) [] []) : textT (bytesOf sg) u K := by
  have hm : m32b u = u % 4294967296 := by
    unfold m32b; rw [wu64]
    show (((BitVec.ofInt 64 u &&& BitVec.ofInt 64 4294967295).toNat : Nat) : Int) % _ = _
    rw [and_m32 u h0 (by omega)]; omega
  have hw : IntKind.i64.wrap (u % 4294967296) = u % 4294967296 := by rw [wi64]; omega
  have hd : u.fdiv (2 ^ min (32 : Int).toNat IntKind.u64.bits) = u / 4294967296 := by
    show u.fdiv 4294967296 = _
    exact fdiv_pos _ (by decide)
  have hf := fracT_range h0
  have hwf : IntKind.u64.wrap (fracT u) = fracT u := by rw [wu64]; omega
  have l1 := digL10_length (u / 4294967296) 1
  have l2 := digL10_length (fracT u) 10
  have l3 := trimL_length (digL10 (fracT u) 10)
  unfold textT
  rw [hm, hw, hd]
  show If _ (Br _ _ _)
  rw [wv_wide]
  show If _ (Br (decide (fracT u > 0)) (If (decide ((⟨#[46]⟩ : ByteArray).size + (trimB (bytesOf (digL10 (IntKind.u64.wrap (fracT u)) 10))).size < 9223372036854775808))
      (If (decide ((bytesOf sg ++ bytesOf (digL10 (u / 4294967296) 1)).size + ((⟨#[46]⟩ : ByteArray) ++ trimB (bytesOf (digL10 (IntKind.u64.wrap (fracT u)) 10))).size < 9223372036854775808)) (K (.str ((bytesOf sg ++ bytesOf (digL10 (u / 4294967296) 1)) ++ ((⟨#[46]⟩ : ByteArray) ++ trimB (bytesOf (digL10 (IntKind.u64.wrap (fracT u)) 10))))) [] [])))
    (K (.str (bytesOf sg ++ bytesOf (digL10 (u / 4294967296) 1))) [] []))
  rw [hwf, trimB_bytes (digits_inByte hf.1), show (⟨#[46]⟩ : ByteArray) = bytesOf [46] from rfl, bytes_append, bytes_append, bytes_append, bytes_size, bytes_size, bytes_size, bytes_size, bytes_size, bytes_size]
  unfold fracL at hK
  refine If.mk (decide_eq_true (by omega)) (Br.of (fun c => If.mk (decide_eq_true ?_) (If.mk (decide_eq_true ?_) ?_)) fun c => ?_)
  · simp only [List.length_cons, List.length_nil]; omega
  · simp only [List.length_append, List.length_cons, List.length_nil]; omega
  · have := of_decide_eq_true c
    rw [show (fracT u == 0) = false by rw [beq_eq_false_iff_ne]; omega] at hK
    rw [List.append_assoc]
    exact hK
  · have := of_decide_eq_false c
    rw [show (fracT u == 0) = true by rw [beq_iff_eq]; omega] at hK
    simp only [cond_true, List.append_nil] at hK
    exact hK
end Go.Se

/- Part 41: where a byte stands in a text: what the model itself has. -/
namespace Go.Se
variable {P : Program}
/-- Where a byte stands first; -1: nowhere. -/
def idxFrom (c : Int) : Nat → List Int → Int
  | _, [] => -1
  | i, a :: l => bif a == c then (i : Int) else idxFrom c (i + 1) l
def idxB (s : ByteArray) (c : Int) : Int := match (List.range s.size).find? fun i => s[i]! == c.toNat.toUInt8 with
  | some i => (i : Int)
  | none => -1
def cIdxB : List SV → List (Option SB) → Out
  | [.str s, .int .u8 c], [] => some (.int .i64 (idxB s c), [], [])
  | _, _ => none
theorem two_args {ρ : Names} {T : Nat → Prop} {w : World} {x y : SV} {vals : Array Value} (h : relL ρ T w [x, y] vals.toList) : ∃ a b, vals = #[a, b] ∧ rel ρ T w x a ∧ rel ρ T w y b := by
  obtain ⟨a, r, h1, ha, b, s, h2, hb, h4⟩ := h
  cases h4
  subst h2
  exact ⟨a, b, by rw [← Array.toList_inj, h1], ha, hb⟩
theorem idxB_range (s : ByteArray) (c : Int) (hs : s.size < 9223372036854775808) : -9223372036854775808 ≤ idxB s c ∧ idxB s c ≤ 9223372036854775807 := by
  unfold idxB
  cases h : (List.range s.size).find? fun i => s[i]! == c.toNat.toUInt8 with
  | none => simp
  | some i =>
    have := List.mem_range.1 (List.mem_of_find?_eq_some h)
    show _ ≤ (i : Int) ∧ (i : Int) ≤ _
    omega
theorem idxB_sat {k : FuncId} {fn : Func} (hf : P.funcs[k]? = some fn) (hname : (fn.name == "runtime.NumGoroutine") = false) (hb : fn.body.isNone = true)
    (hn : Extern.findNext fn = none) (he : Extern.find fn = some Extern.BytealgIndexByte.indexByte) (xs : List SV) (σ : List (Option SB)) : Sat P k xs σ (one cIdxB xs σ) := by
  refine one_sat (fun xs σ v σ' d h => ?_) xs σ
  unfold cIdxB at h
  split at h
  · rename_i s c
    cases h
    refine callOK_extern hf hname hb hn he fun T w vals hv => ?_
    obtain ⟨_, _, rfl, ⟨rfl, hs⟩, ⟨rfl, hc⟩⟩ := two_args hv
    refine ⟨.int .i64 (idxB s c), ?_, rfl, idxB_range s c hs⟩
    unfold idxB
    show (do
      let b ← Extern.Bytes.bytesOf (.string s)
      let d ← Extern.Bytes.asByte (.int .u8 c)
      match (List.range b.size).find? fun i => b[i]! == d with
      | some i => pure (goInt i)
      | none => pure (goInt (-1)) : Sem Value).run P w = _
    simp only [Extern.Bytes.bytesOf, Extern.Bytes.asByte, Sem.run_bind, Sem.run_pure, Result.andThen_ok]
    cases h : (List.range s.size).find? fun i => s[i]! == c.toNat.toUInt8 with
    | none => rfl
    | some i => rfl
  · cases h
end Go.Se

