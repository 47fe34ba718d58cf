/- Part 8b: append. -/
import Derived.Test.YtjlmofhokbnloaaDoorSeOps3
import Derived.Deep.AppendSrc
import Derived.Lib.UnsafeStr
import Derived.Laws.RangeAny
import Derived.Lib.Builder
import Derived.Laws.MakeOwn
namespace Go.Se
variable {P : Program}

/-- A new block, or one under a new name. -/
theorem Done.newB {ρ : Names} {T : Nat → Prop} {w w' : World} {n b : Nat} {sb : SB} {v : SV} {x : Value} (hn : ρ n = none) (hG : Grow (fun _ => False) w w') (hge : w.heap.size ≤ b) (hlt : b < w'.heap.size)
    (hB : relB (named ρ n b) (fun c => T c ∨ c = b) w' sb b) (hv : rel (named ρ n b) (fun c => T c ∨ c = b) w' v x) :
    Done ρ T w n (n + 1) v [(n, some sb)] [] (named ρ n b) (fun c => T c ∨ c = b) w' x where
  names id c h := by
    unfold named
    rw [if_neg (by rintro rfl; rw [hn] at h; cases h)]; exact h
  only id c h := by
    unfold named at h
    split at h
    · right; omega
    · exact .inl h
  val := hv
  turned id s h := by
    simp only [List.mem_singleton, Prod.mk.injEq, Option.some.injEq] at h
    obtain ⟨rfl, rfl⟩ := h
    exact ⟨b, by simp [named], .inr rfl, hB⟩
  keys id o h := by
    simp only [List.mem_singleton, Prod.mk.injEq] at h
    right; omega
  cover _ h := by cases h
  fresh id c h1 h2 h := by
    left
    obtain rfl : id = n := by omega
    simp [named] at h
    omega
  inj i j c h1 h2 h3 h4 _ _ := by omega
  grow := hG.mono fun _ _ h => h.elim
  tback c hb h := by
    rcases h with h | h
    · exact h
    · omega
  below id c h1 h2 h := by
    obtain rfl : id = n := by omega
    simp [named] at h
    omega
  tkeep c _ h := .inl (.inl h)

/-- A block that was told goes under a new name: as it lies, or anew. -/
theorem Done.turnB {ρ : Names} {T : Nat → Prop} {w w' : World} {n id b b0 : Nat} {sb : SB} {v : SV} {x : Value} (hn : ρ n = none) (hid : ρ id = some b0) (hT0 : T b0) (hG : Grow (fun c => c = b0) w w') (hb : b = b0 ∨ w.heap.size ≤ b) (hlt : b < w'.heap.size)
    (hB : relB (named ρ n b) (fun c => T c ∨ c = b) w' sb b) (hv : rel (named ρ n b) (fun c => T c ∨ c = b) w' v x) :
    Done ρ T w n (n + 1) v [(id, none), (n, some sb)] [id] (named ρ n b) (fun c => T c ∨ c = b) w' x where
  names i c h := by
    unfold named
    rw [if_neg (by rintro rfl; rw [hn] at h; cases h)]; exact h
  only i c h := by
    unfold named at h
    split at h
    · right; omega
    · exact .inl h
  val := hv
  turned i s h := by
    simp only [List.mem_cons, Prod.mk.injEq, reduceCtorEq, and_false, Option.some.injEq, List.not_mem_nil, or_false, false_or] at h
    obtain ⟨rfl, rfl⟩ := h
    exact ⟨b, by simp [named], .inr rfl, hB⟩
  keys i o h := by
    simp only [List.mem_cons, Prod.mk.injEq, List.not_mem_nil, or_false] at h
    rcases h with h | h
    · left; simp [h.1]
    · right; omega
  cover i h := by
    obtain rfl := List.mem_singleton.1 h
    exact ⟨none, by simp⟩
  fresh i c h1 h2 h := by
    obtain rfl : i = n := by omega
    simp [named] at h
    subst h
    rcases hb with rfl | hb
    · exact .inr ⟨id, by simp, by simp, hid⟩
    · exact .inl hb
  inj i j c h1 h2 h3 h4 _ _ := by omega
  grow := hG.mono fun c _ h => ⟨id, by simp, by rw [h]; exact hid⟩
  tback c hc h := by
    rcases h with h | h
    · exact h
    · rcases hb with rfl | hb
      · rw [h]; exact hT0
      · omega
  below i c h1 h2 h := by
    obtain rfl : i = n := by omega
    simp [named] at h
    omega
  tkeep c _ h := .inl (.inl h)

theorem Grow.drewAlloc (T : Nat → Prop) (w : World) (o : Obj) : Grow T w (w.drew.alloc o) where
  size := by rw [World.size_alloc]; show w.heap.size ≤ w.heap.size + 1; omega
  same b hb _ := alloc_other (w := w.drew) hb
  shape b vs e f h := ⟨vs, f, by rw [alloc_other (w := w.drew) (Array.getElem?_eq_some_iff.1 h).1]; exact h, rfl⟩
  os := rfl
  output := rfl
  tape := rfl


/-- There is room: the block's cells behind are written. -/
theorem run_append_room (w : World) (t tx ty e e' : TypeId) (i : TypeInfo) (ht : P.underlying t = some (.slice e)) (hi : P.info? e = some i) (b sLen sCap : Nat) (x : Value) (n : Nat) (news : List Value) (hs : Src P i.size tx x n news w)
    (hroom : sLen + n ≤ sCap) {vs : Array Value} (hb : w.heap[b]? = some (.cells vs e' (0, 0))) (hfit : sLen * i.size + news.length ≤ vs.size) (as : Array TypeId) (ha0 : as[0]? = some t) (ha1 : as[1]? = some tx) :
    (Builtin.append_ as ty #[.slice (some ⟨b, 0, none⟩) sLen sCap, x]).run P w = .ok (.slice (some ⟨b, 0, none⟩) (sLen + n) sCap) (putBlock w b (overAt vs.toList (sLen * i.size) news).toArray e') := by
  have hst := run_storeCells (P := P) (o := sLen * i.size) news 0 vs w hb (by omega) hs.one
  simp only [Nat.add_zero] at hst
  rcases hs.kind with ⟨e', hk⟩ | hk <;> simp [Builtin.append_, ha0, ha1, Go.run_underlying ht, Go.run_underlying hk, sizeOf, typeInfo, hi, hs.len, hroom, hs.cells, add_off, hst]

/-- There is none: a new row. -/
theorem run_append_new (w : World) (t tx ty e : TypeId) (i : TypeInfo) (z : Value) (ht : P.underlying t = some (.slice e)) (hi : P.info? e = some i) (hz : i.zero = some z) (base : Option Addr) (sLen sCap : Nat) (olds : List Value)
    (hold : (Builtin.firstCells i.size sLen (.slice base sLen sCap)).run P w.drew = .ok olds.toArray w.drew) (x : Value) (n : Nat) (news : List Value) (hs : Src P i.size tx x n news w)
    (hg : sCap < sLen + n) (h63 : ((sLen + n : Nat) : Int) ≤ 9223372036854775807) (hfit : Builtin.nextslicecap (sLen + n) sCap * i.bytes ≤ 281474976710656) (as : Array TypeId) (ha0 : as[0]? = some t) (ha1 : as[1]? = some tx) :
    (Builtin.append_ as ty #[.slice base sLen sCap, x]).run P w =
      .ok (.slice (some ⟨w.heap.size, 0, none⟩) (sLen + n) (grownCap w (sLen + n) sCap e))
        (w.drew.alloc (.cells ((olds ++ news).toArray ++ Builtin.zeroCells z.cells (grownCap w (sLen + n) sCap e - (sLen + n))) e)) := by
  have h := run_append_grow_src (P := P) w t tx ty e i z ht hi hz base sLen sCap olds hold x n news hs hg h63 hfit
  have e1 : Builtin.append_ as ty #[.slice base sLen sCap, x] = Builtin.append_ #[t, tx] ty #[.slice base sLen sCap, x] := by
    unfold Builtin.append_
    rw [ha0, ha1]
    rfl
  rw [e1]
  exact h
theorem keepN {ρ : Names} {n : Nat} (hn : ρ n = none) (b : Nat) : ∀ id c, ρ id = some c → named ρ n b id = some c := fun id c h => by
  unfold named
  rw [if_neg (by rintro rfl; rw [hn] at h; cases h)]; exact h
theorem keepT {T : Nat → Prop} {w : World} {b : Nat} (hb : w.heap.size ≤ b) : ∀ c, c < w.heap.size → (T c ∨ c = b) → T c := fun c hc h => by
  rcases h with h | h
  · exact h
  · omega
theorem zeroCells_size (z : Array Value) (n : Nat) : (Builtin.zeroCells z n).size = n * z.size := by simp [Builtin.zeroCells]

section
variable {env : Env} {st : St} {o : Oper} {K : KV} (htt : ∀ t ti, env.tt t = some ti → TIok P t ti)
include htt

omit htt in
/-- What is appended, in memory. -/
theorem src_ok {size n : Nat} {x : SV} {c : List SV} {rd : List Nat} {tx e' : TypeId} (h : srcE st size x = some (n, c, rd)) (hk : P.underlying tx = some (.slice e')) {ρ : Names} {T : Nat → Prop} {w : World} {y : Value}
    (hr : rel ρ T w x y) (hb : ∀ i, i ∈ rd → ∃ sb b, look st.store i = some sb ∧ ρ i = some b ∧ T b ∧ relB ρ T w sb b) :
    ∃ news, Src P size tx y n news w ∧ relL ρ T w c news := by
  unfold srcE at h
  split at h
  · cases h
    have hy : y = .slice none 0 0 := hr
    subst hy
    exact ⟨[], Src.ofNil w hk 0, rfl⟩
  · cases h
    obtain ⟨a, cc, rfl⟩ := hr
    exact ⟨[], Src.ofSlice w hk _ _ _ _ (by simp) (fun j u hj => by simp at hj) (fun x hx => by simp at hx), rfl⟩
  · rename_i id off len cap
    split at h
    · rename_i ee cs hl
      cases hg : Nat.beq (cut cs off (len * size)).length (len * size) && (cut cs off (len * size)).all oneCell with
      | false => rw [hg] at h; cases h
      | true =>
        rw [hg] at h
        cases h
        simp only [Bool.and_eq_true] at hg
        obtain ⟨⟨b, h2, rfl⟩, _⟩ := hr
        obtain ⟨sb, b', h4, h5, _, h6⟩ := hb id (by simp)
        rw [hl] at h4; cases h4
        rw [h2] at h5; cases h5
        obtain ⟨vs, h7, h8⟩ := h6
        have hc := relL_cut off (n * size) h8
        have hlen := Nat.eq_of_beq_eq_true hg.1
        have hl2 := relL_len hc
        refine ⟨(vs.toList.drop off).take (n * size), Src.ofSlice w hk _ _ _ _ (by omega) (fun j u hj => ?_) (oneCells_ok hc hg.2), hc⟩
        rw [add_off, cell_of h7]
        rw [List.getElem?_take] at hj
        split at hj
        · rw [List.getElem?_drop] at hj
          simpa using hj
        · cases hj
    · cases h
  · rename_i id off st' len
    split at h
    · rename_i ee cs hl
      cases hg : Nat.beq st' size && (Nat.beq (cut cs (off * size) (len * size)).length (len * size) && (cut cs (off * size) (len * size)).all oneCell) with
      | false => rw [hg] at h; cases h
      | true =>
        rw [hg] at h
        cases h
        simp only [Bool.and_eq_true] at hg
        obtain ⟨hst, hg⟩ := hg
        obtain rfl := Nat.eq_of_beq_eq_true hst
        obtain ⟨b, cc, h2, rfl, _⟩ := hr
        obtain ⟨sb, b', h4, h5, _, h6⟩ := hb id (by simp)
        rw [hl] at h4; cases h4
        rw [h2] at h5; cases h5
        obtain ⟨vs, h7, m, r, hm, h8⟩ := h6
        have hc := relL_cut (off * st') (n * st') h8
        have hlen := Nat.eq_of_beq_eq_true hg.1
        have hl2 := relL_len hc
        refine ⟨(m.drop (off * st')).take (n * st'), Src.ofSlice w hk _ _ _ _ (by omega) (fun j u hj => ?_) (oneCells_ok hc hg.2), hc⟩
        rw [add_off, cell_of h7]
        rw [List.getElem?_take] at hj
        split at hj
        · rw [List.getElem?_drop] at hj
          have hlt := (List.getElem?_eq_some_iff.1 hj).1
          rw [← Array.getElem?_toList, hm, List.getElem?_append_left hlt]
          exact hj
        · cases hj
    · cases h
  · cases h

omit htt in
theorem src_rd {size n : Nat} {x : SV} {c : List SV} {rd : List Nat} (h : srcE st size x = some (n, c, rd)) : ∀ i, i ∈ rd → ∃ sb, look st.store i = some sb := by
  intro i hi
  unfold srcE at h
  split at h
  · cases h; cases hi
  · cases h; cases hi
  · rename_i id off len cap
    split at h
    · rename_i ee cs hl
      cases hg : Nat.beq (cut cs off (len * size)).length (len * size) && (cut cs off (len * size)).all oneCell with
      | false => rw [hg] at h; cases h
      | true =>
        rw [hg] at h
        cases h
        obtain rfl := List.mem_singleton.1 hi
        exact ⟨_, hl⟩
    · cases h
  · rename_i id off st' len
    split at h
    · rename_i ee cs hl
      cases hg : Nat.beq st' size && (Nat.beq (cut cs (off * size) (len * size)).length (len * size) && (cut cs (off * size) (len * size)).all oneCell) with
      | false => rw [hg] at h; cases h
      | true =>
        rw [hg] at h
        cases h
        obtain rfl := List.mem_singleton.1 hi
        exact ⟨_, hl⟩
    · cases h
  · cases h

omit htt in
theorem relAt_list {T : Nat → Prop} {w : World} {b : Nat} : ∀ (l : List SV) (o : Nat), relAt T w l b o → ∃ m, relL (fun _ => none) T w l m ∧ ∀ j u, m[j]? = some u → w.cell? ⟨b, o + j, none⟩ = some u
  | [], o, _ => ⟨[], rfl, fun j u h => by simp at h⟩
  | a :: l, o, ⟨⟨v, h1, h2⟩, h3⟩ => by
    obtain ⟨m, h4, h5⟩ := relAt_list l (o + 1) h3
    refine ⟨v :: m, ⟨v, m, rfl, h2, h4⟩, fun j u hj => ?_⟩
    cases j with
    | zero => simp at hj; subst hj; exact h1
    | succ j =>
      have := h5 j u (by simpa using hj)
      rw [show o + (j + 1) = o + 1 + j by omega]; exact this

omit htt in
/-- A row's cells, one behind the other. -/
theorem ro_cells {T : Nat → Prop} {w : World} {sz b off : Nat} {g : Nat → List SV} : ∀ (n : Nat), (∀ i, i < n → relAt T w (g i) b (off + i * sz)) → (∀ i, i < n → (g i).length = sz ∧ (g i).all oneCell = true) →
    ∃ news : List Value, news.length = n * sz ∧ (∀ j u, news[j]? = some u → w.cell? ⟨b, off + j, none⟩ = some u) ∧ (∀ u ∈ news, u.oneCell' = true) ∧
      ∀ i, i < n → relL (fun _ => none) T w (g i) ((news.drop (i * sz)).take sz)
  | 0, _, _ => ⟨[], by simp, fun j u h => by simp at h, fun u h => (by cases h), fun i h => by omega⟩
  | n + 1, h, hl => by
    obtain ⟨news, h1, h2, h3, h4⟩ := ro_cells n (fun i hi => h i (by omega)) (fun i hi => hl i (by omega))
    obtain ⟨m, h5, h6⟩ := relAt_list (g n) _ (h n (by omega))
    obtain ⟨h7, h8⟩ := hl n (by omega)
    have hm := relL_len h5
    refine ⟨news ++ m, by rw [List.length_append, h1, ← hm, h7, Nat.add_mul, Nat.one_mul], fun j u hj => ?_, fun u hu => ?_, fun i hi => ?_⟩
    · rw [List.getElem?_append] at hj
      split at hj
      · exact h2 j u hj
      · have := h6 _ u hj
        rw [show off + j = off + n * sz + (j - news.length) by omega]; exact this
    · rcases List.mem_append.1 hu with hu | hu
      · exact h3 u hu
      · exact oneCells_ok h5 h8 u hu
    · by_cases hin : i = n
      · subst hin
        rw [← h1, List.drop_left, List.take_of_length_le (by omega)]
        exact h5
      · have : (i + 1) * sz ≤ n * sz := Nat.mul_le_mul_right _ (by omega)
        rw [Nat.add_mul, Nat.one_mul] at this
        rw [List.drop_append_of_le_length (by omega), List.take_append_of_le_length (by rw [List.length_drop]; omega)]
        exact h4 i (by omega)

omit htt in
theorem relB_cells {ρ : Names} {T : Nat → Prop} {w : World} {sb : SB} {b : Nat} {vs0 : Array Value} {e0 : TypeId} {f0 : Nat × Nat} (hc : w.heap[b]? = some (.cells vs0 e0 f0)) (h : relB ρ T w sb b) : ∃ vs e, w.heap[b]? = some (.cells vs e (0, 0)) := by
  cases sb with
  | cells e cs => obtain ⟨vs, h, _⟩ := h; exact ⟨vs, e, h⟩
  | lst e cs => obtain ⟨vs, h, _⟩ := h; exact ⟨vs, e, h⟩
  | row e st n g => obtain ⟨vs, h, _⟩ := h; exact ⟨vs, e, h⟩
  | loop tm nt ps as bd pend => obtain ⟨r, h, _⟩ := h; rw [hc] at h; cases h
  | iter s pos => obtain ⟨q, h, _⟩ := h; rw [hc] at h; cases h

omit htt in
theorem zeroCells_mem {z : Array Value} {n : Nat} (hz : 0 < z.size) {v : Value} (h : v ∈ (Builtin.zeroCells z n).toList) : v ∈ z.toList := by
  simp [Builtin.zeroCells] at h
  have hlt := Nat.mod_lt (List.mem_iff_getElem.1 (Array.mem_toList_iff.2 (Array.mem_of_getElem rfl : z[0] ∈ z))).choose hz
  obtain ⟨k, hk, h⟩ := h
  have hm := Nat.mod_lt k hz
  rw [getElem!_pos z _ hm] at h
  rw [← h]; simp

theorem good_clear {c : Call} {t : TypeId} {x : SV} {ts : List TypeId} (hexec : ∀ (a : Act), execOp a.eval o = Go.builtin .clear c.argTypes o.type (c.args.map fun | .const _ => true | _ => false) (c.args.map a.eval))
    (hargs : ∀ (ρ : Names) (T : Nat → Prop) (a : Act) (w : World), (∀ x, x ∈ o.op.operands → rel ρ T w (eval st.tmps x) (a.eval x)) → relL ρ T w [x] (c.args.map a.eval).toList)
    (hts : c.argTypes.toList = t :: ts) (h : clearE env t x st K) : Good P st o K := by
  have ha0 : c.argTypes[0]? = some t := by rw [← Array.getElem?_toList, hts]; rfl
  have one : ∀ {ρ : Names} {T : Nat → Prop} {w : World} {a : Act}, relL ρ T w [x] (c.args.map a.eval).toList → ∃ y, c.args.map a.eval = #[y] ∧ rel ρ T w x y := by
    rintro ρ T w a ⟨y, r, h1, h2, h3⟩
    have h3' : r = [] := h3
    subst h3'
    exact ⟨y, by apply Array.ext'; exact h1, h2⟩
  unfold clearE at h
  split at h
  case h_2 => exact h.elim
  rename_i ti ht
  split at h
  · rename_i e s' g hk
    have hT := kind_slice (htt _ _ ht) hk
    refine Good.pure h (OpOK.pure fun ρ T a w hr => ?_)
    obtain ⟨y, h1, h2⟩ := one (hargs ρ T a w hr)
    obtain ⟨ad, cp, rfl, _⟩ := h2
    refine ⟨.tuple #[], ?_, #[], rfl, rfl⟩
    rw [hexec, h1]
    show (do Pure.pure (Next.value (← Builtin.clear_ c.argTypes o.type #[_]))).run P _ = _
    have hu : ∀ w, (Go.underlying t).run P w = .ok (.slice e) w := Go.run_underlying hT
    cases ad <;> simp [Builtin.clear_, ha0, hu]
  · rename_i e id off sz len hk
    have hT := kind_slice (htt _ _ ht) hk
    split at h
    case h_2 => exact h.elim
    rename_i te hte
    cases hz0 : Nat.beq sz te.size && (Nat.beq te.zero.length te.size && te.zero.all oneCell) && Nat.blt 0 te.size with
    | false => rw [hz0] at h; exact h.elim
    | true =>
    rw [hz0] at h
    simp only [Bool.and_eq_true, cond_true] at hz0 h
    obtain ⟨hz0, hpos⟩ := hz0
    have hpos : 0 < te.size := Nat.le_of_ble_eq_true hpos
    obtain rfl := Nat.eq_of_beq_eq_true hz0.1
    have hzl := Nat.eq_of_beq_eq_true hz0.2.1
    split at h
    case h_2 => exact h.elim
    rename_i sb hl
    refine ⟨_, _, _, _, _, h, Nat.le_refl _, fun i hi => ?_, Once.one, by simp, fun ρ T a w next Q hr hb _ hnm _ hnext => ?_⟩
    · simp only [List.mem_singleton, List.not_mem_nil, false_or] at hi
      subst hi; exact ⟨_, hl⟩
    · obtain ⟨y, h1, h2⟩ := one (hargs ρ T a w hr)
      obtain ⟨b, cp, k1, rfl, k2, k3, vs0, e0, f0, k4, k5⟩ := h2
      obtain ⟨sb1, b', j1, j2, hTb, j4⟩ := hb id (.inr (by simp))
      rw [k1] at j2; cases j2
      obtain ⟨vs, e1, j5⟩ := relB_cells k4 j4
      rw [k4] at j5; cases j5
      obtain ⟨z, hz, hzc⟩ := (htt _ _ hte).zero (w := w)
      have hu : ∀ w, (Go.underlying t).run P w = .ok (.slice e) w := Go.run_underlying hT
      have hzrel := zeroCells_rel ρ T w _ _ hzc
      have hzs : z.cells.size = te.size := by
        have := relL_len hzrel
        rw [← hzl, this]; simp
      have hrunc : ∃ w', (Builtin.clear_ c.argTypes o.type #[.slice (some ⟨b, off * te.size, none⟩) len cp]).run P w = .ok (.tuple #[]) w' ∧ Grow (fun c => c = b) w w' := by
        cases len with
        | zero => exact ⟨w, by simp [Builtin.clear_, ha0, hu], Grow.refl _ _⟩
        | succ len =>
          have hsz : (Builtin.zeroCells z.cells (len + 1)).toList.length = (len + 1) * te.size := by
            rw [Array.length_toList, zeroCells_size, hzs]
          have hfit : off * te.size + 0 + (Builtin.zeroCells z.cells (len + 1)).toList.length ≤ vs0.size := by
            have : (len + 1) * te.size ≤ cp * te.size := Nat.mul_le_mul_right _ k2
            omega
          have hone : ∀ v ∈ (Builtin.zeroCells z.cells (len + 1)).toList, v.oneCell' = true := fun v hv => oneCells_ok hzrel hz0.2.2 v (zeroCells_mem (by rw [hzs]; exact hpos) hv)
          have hst := run_storeCells (P := P) (o := off * te.size) _ 0 vs0 w k4 hfit hone
          refine ⟨_, ?_, Grow.put k4 (vs' := (overAt vs0.toList (off * te.size + 0) (Builtin.zeroCells z.cells (len + 1)).toList).toArray) (by rw [List.size_toArray, overAt_len (by simpa using hfit)]; simp) _ rfl⟩
          simp [Builtin.clear_, ha0, hu, hz, hst]
      obtain ⟨w', hrun, hG⟩ := hrunc
      refine wp_value (x := .tuple #[]) (w' := w') ?_ (hnext _ _ ρ T ?_)
      · rw [hexec, h1]
        show (do Pure.pure (Next.value (← Builtin.clear_ c.argTypes o.type #[_]))).run P _ = _
        rw [Sem.run_bind, hrun]; rfl
      · exact {
          names := fun _ _ h => h
          only := fun _ _ h => .inl h
          val := ⟨#[], rfl, rfl⟩
          turned := fun i sb hi => by simp at hi
          keys := fun i ob hi => by
            simp only [List.mem_singleton, Prod.mk.injEq] at hi
            left; simp [hi.1]
          cover := fun i hi => by obtain rfl := List.mem_singleton.1 hi; exact ⟨_, List.mem_singleton.2 rfl⟩
          fresh := fun i b h1 h2 _ => by omega
          inj := fun i j b _ h1 h2 _ _ _ => by omega
          grow := hG.mono fun c _ hc => ⟨id, by simp, by rw [hc]; exact k1⟩
          tback := fun _ _ h => h
          below := fun i b h1 h2 _ => by omega
          tkeep := fun _ _ h => .inl h }
  · exact h.elim

omit htt in
theorem idsL_mem : ∀ {l : List SV}, ids.idsL l = [] → ∀ v ∈ l, ids v = []
  | [], _, v, h => by cases h
  | a :: l, h, v, hv => by
    simp only [ids.idsL, List.append_eq_nil_iff] at h
    rcases List.mem_cons.1 hv with rfl | hv
    · exact h.1
    · exact idsL_mem h.2 v hv
omit htt in
theorem idsL_of_mem : ∀ {l : List SV}, (∀ v ∈ l, ids v = []) → ids.idsL l = []
  | [], _ => rfl
  | a :: l, h => by
    simp only [ids.idsL, List.append_eq_nil_iff]
    exact ⟨h a (List.mem_cons_self ..), idsL_of_mem fun v hv => h v (List.mem_cons_of_mem _ hv)⟩
omit htt in
theorem relB_row {ρ : Names} {T : Nat → Prop} {w : World} {e : TypeId} {cs : List SV} {st len b : Nat} (hf : ids.idsL cs = []) (hl : cs.length = len * st) (h : relB ρ T w (.lst e cs) b) :
    relB ρ T w (.row e st len (fun i => cut cs (i * st) st)) b := by
  obtain ⟨vs, h1, m, r, h2, h3⟩ := h
  have hml := relL_len h3
  have hsz : vs.toList.length = vs.size := by simp
  have h2' := congrArg List.length h2
  rw [List.length_append] at h2'
  refine ⟨vs, h1, by omega, fun i hi => ?_⟩
  have hisz : (i + 1) * st ≤ len * st := Nat.mul_le_mul_right _ hi
  rw [Nat.add_mul, Nat.one_mul] at hisz
  have hc := relL_cut (i * st) st h3
  rw [h2, List.drop_append_of_le_length (by omega), List.take_append_of_le_length (by rw [List.length_drop]; omega)]
  refine relL_flat _ _ (idsL_of_mem fun v hv => idsL_mem hf v ?_) hc
  exact List.mem_of_mem_drop (List.mem_of_mem_take hv)

omit htt in
theorem rowOf_rd {size n : Nat} {x : SV} {g : Nat → List SV} {rd : List Nat} {ok : Bool} (h : rowOf st size x = some (n, g, rd, ok)) : ∀ i, i ∈ rd → ∃ sb, look st.store i = some sb := by
  intro i hi
  unfold rowOf at h
  split at h
  · rename_i n' sz g'
    cases hs : Nat.beq sz size with
    | false => rw [hs] at h; cases h
    | true => rw [hs] at h; cases h; cases hi
  · rename_i id sz n'
    split at h
    · rename_i e1 sz' len g' hl
      cases hc : Nat.beq sz size && Nat.beq sz' size with
      | false => rw [hc] at h; cases h
      | true =>
        rw [hc] at h
        cases h
        obtain rfl := List.mem_singleton.1 hi
        exact ⟨_, hl⟩
    · cases h
  · cases h

omit htt in
/-- A row that is appended, in memory. -/
theorem rowOf_ok {size n : Nat} {x : SV} {g : Nat → List SV} {rd : List Nat} {ok : Bool} {tx e' : TypeId} (h : rowOf st size x = some (n, g, rd, ok)) (hok : ok = true) (hk : P.underlying tx = some (.slice e'))
    (hg : ∀ i, i < n → (g i).length = size ∧ (g i).all oneCell = true) {ρ : Names} {T : Nat → Prop} {w : World} {y : Value}
    (hr : rel ρ T w x y) (hb : ∀ i, i ∈ rd → ∃ sb b, look st.store i = some sb ∧ ρ i = some b ∧ T b ∧ relB ρ T w sb b) :
    ∃ news, Src P size tx y n news w ∧ news.length = n * size ∧ ∀ i, i < n → relL (fun _ => none) T w (g i) ((news.drop (i * size)).take size) := by
  unfold rowOf at h
  split at h
  · rename_i n' sz g'
    cases hs : Nat.beq sz size with
    | false => rw [hs] at h; cases h
    | true =>
      rw [hs] at h
      cases h
      obtain rfl := Nat.eq_of_beq_eq_true hs
      obtain ⟨ad, cp, rfl, k2, k3⟩ := hr
      rcases Nat.eq_zero_or_pos n with rfl | hn
      · cases ad with
        | none => rw [k2.2.2 rfl]; exact ⟨[], Src.ofNil w hk _, by simp, fun i hi => absurd hi (Nat.not_lt_zero _)⟩
        | some ad => exact ⟨[], Src.ofSlice w hk _ _ _ _ (by simp) (fun j u hj => by simp at hj) (fun x hx => by simp at hx), by simp, fun i hi => absurd hi (Nat.not_lt_zero _)⟩
      · obtain ⟨b, off, rfl, k4, k5, k6⟩ := k3 hn
        obtain ⟨news, m1, m2, m3, m4⟩ := ro_cells n k6 hg
        exact ⟨news, Src.ofSlice w hk _ _ _ _ m1 (fun j v hj => by rw [add_off]; exact m2 j v hj) m3, m1, m4⟩
  · rename_i id sz n'
    split at h
    · rename_i e1 sz' len g' hl
      cases hc : Nat.beq sz size && Nat.beq sz' size with
      | false => rw [hc] at h; cases h
      | true =>
        rw [hc] at h
        cases h
        simp only [Bool.and_eq_true] at hc
        obtain rfl := Nat.eq_of_beq_eq_true hc.1
        obtain rfl := Nat.eq_of_beq_eq_true hc.2
        have hlen := of_decide_eq_true hok
        obtain ⟨b, c, j1, rfl, j2, j3, vs0, e0, f0, j4, j5⟩ := hr
        obtain ⟨sb, b', k1, k2, k3, k4⟩ := hb id (by simp)
        rw [hl] at k1; cases k1
        rw [j1] at k2; cases k2
        obtain ⟨vs, l1, l2, l3⟩ := k4
        have hat : ∀ i, i < n → relAt T w (g i) b (0 * sz' + i * sz') := fun i hi => relAt_cells (l3 i (by omega)) fun j c hj => by
          rw [cell_of l1]
          rw [List.getElem?_take] at hj
          split at hj
          · rw [List.getElem?_drop, Array.getElem?_toList] at hj
            rw [Nat.zero_mul, Nat.zero_add]; exact hj
          · cases hj
        obtain ⟨news, m1, m2, m3, m4⟩ := ro_cells n hat hg
        exact ⟨news, Src.ofSlice w hk _ _ _ _ m1 (fun j v hj => by rw [add_off]; exact m2 j v hj) m3, m1, m4⟩
    · cases h
  · cases h

omit htt in
theorem catR_cells {T : Nat → Prop} {w : World} {sz len n : Nat} {g h : Nat → List SV} {m0 news rest : List Value} (h0 : m0.length = len * sz) (h1 : news.length = n * sz)
    (hg : ∀ i, i < len → relL (fun _ => none) T w (g i) ((m0.drop (i * sz)).take sz)) (hh : ∀ i, i < n → relL (fun _ => none) T w (h i) ((news.drop (i * sz)).take sz)) :
    ∀ i, i < len + n → relL (fun _ => none) T w (catR len g h i) (((m0 ++ news ++ rest).drop (i * sz)).take sz) := by
  intro i hi
  unfold catR
  cases hc : Nat.blt i len with
  | true =>
    have hlt : i < len := by simpa using hc
    have : (i + 1) * sz ≤ len * sz := Nat.mul_le_mul_right _ hlt
    rw [Nat.add_mul, Nat.one_mul] at this
    rw [List.append_assoc, List.drop_append_of_le_length (by omega), List.take_append_of_le_length (by rw [List.length_drop]; omega)]
    exact hg i hlt
  | false =>
    have hge : len ≤ i := by
      rw [Bool.eq_false_iff] at hc
      exact Nat.not_lt.1 fun h => hc (by simpa using h)
    obtain ⟨k, rfl⟩ : ∃ k, i = len + k := ⟨i - len, by omega⟩
    have hk : k < n := by omega
    have : (k + 1) * sz ≤ n * sz := Nat.mul_le_mul_right _ hk
    rw [Nat.add_mul, Nat.one_mul] at this
    have hd : (m0 ++ news ++ rest).drop ((len + k) * sz) = news.drop (k * sz) ++ rest := by
      rw [Nat.add_mul, ← List.drop_drop, ← h0, List.append_assoc, List.drop_left, List.drop_append_of_le_length (by omega)]
    rw [Nat.add_sub_cancel_left, hd, List.take_append_of_le_length (by rw [List.length_drop]; omega)]
    exact hh k hk

omit htt in
theorem ownRow_ok {e sz id len : Nat} {g : Nat → List SV} (h : ownRow st e sz id = some (g, len)) : ∃ sb, look st.store id = some sb ∧ ∀ (ρ : Names) (T : Nat → Prop) (w : World) (b : Nat), relB ρ T w sb b →
    ∃ vs : Array Value, w.heap[b]? = some (.cells vs e (0, 0)) ∧ len * sz ≤ vs.size ∧ ∀ i, i < len → relL (fun _ => none) T w (g i) ((vs.toList.drop (i * sz)).take sz) := by
  unfold ownRow at h
  split at h
  · rename_i e1 sz1 len1 g1 hl
    cases hc : Nat.beq e1 e && Nat.beq sz1 sz with
    | false => rw [hc] at h; cases h
    | true =>
      rw [hc] at h
      cases h
      simp only [Bool.and_eq_true] at hc
      obtain rfl := Nat.eq_of_beq_eq_true hc.1
      obtain rfl := Nat.eq_of_beq_eq_true hc.2
      exact ⟨_, hl, fun ρ T w b hb => hb⟩
  · rename_i e1 cs hl
    cases hc : Nat.beq e1 e && ((ids.idsL cs).isEmpty && Nat.beq (cs.length % sz) 0) with
    | false => rw [hc] at h; cases h
    | true =>
      rw [hc] at h
      cases h
      simp only [Bool.and_eq_true, List.isEmpty_iff] at hc
      obtain rfl := Nat.eq_of_beq_eq_true hc.1
      have hm := Nat.eq_of_beq_eq_true hc.2.2
      have hd : cs.length = cs.length / sz * sz := (Nat.div_mul_cancel (Nat.dvd_of_mod_eq_zero hm)).symm
      exact ⟨_, hl, fun ρ T w b hb => relB_row hc.2.1 hd hb⟩
  · cases h

omit htt in
theorem good_appendR {c : Call} {t u e : TypeId} {te : TI} {s x : SV} {R : Option (Nat × (Nat → List SV) × List Nat × Bool)} {inf : TypeInfo} {z : Value} (hT : P.underlying t = some (.slice e))
    (hrd : ∀ n g rd ok, R = some (n, g, rd, ok) → ∀ i, i ∈ rd → ∃ sb, look st.store i = some sb)
    (hsrc : ∀ n g rd ok, R = some (n, g, rd, ok) → ok = true → (∀ i, i < n → (g i).length = te.size ∧ (g i).all oneCell = true) → ∀ {ρ : Names} {T : Nat → Prop} {w : World} {y : Value}, rel ρ T w x y →
      (∀ i, i ∈ rd → ∃ sb b, look st.store i = some sb ∧ ρ i = some b ∧ T b ∧ relB ρ T w sb b) →
      ∃ news, Src P te.size u y n news w ∧ news.length = n * te.size ∧ ∀ i, i < n → relL (fun _ => none) T w (g i) ((news.drop (i * te.size)).take te.size)) (hinf : P.info? e = some inf) (hsz : inf.size = te.size) (_hby : inf.bytes = te.bytes)
    (hz : inf.zero = some z) (hzs : z.cells.size = te.size)
    (two : ∀ {ρ : Names} {T : Nat → Prop} {w : World} {a : Act}, (∀ x, x ∈ o.op.operands → rel ρ T w (eval st.tmps x) (a.eval x)) → ∃ y y', c.args.map a.eval = #[y, y'] ∧ rel ρ T w s y ∧ rel ρ T w x y')
    (runs : ∀ {a : Act} {w w' : World} {y y' v : Value}, c.args.map a.eval = #[y, y'] → (Builtin.append_ c.argTypes o.type #[y, y']).run P w = .ok v w' → (execOp a.eval o).run P w = .ok (.value v) w')
    (cap48 : ∀ (need old : Nat), old < need → need * te.bytes ≤ 1099511627776 → Builtin.nextslicecap need old * inf.bytes ≤ 281474976710656)
    (ha0 : c.argTypes[0]? = some t) (ha1 : c.argTypes[1]? = some u) (h : appendR st e te s R K) : Good P st o K := by
  unfold appendR at h
  split at h
  · exact h.elim
  rename_i n g rd ok
  have rdlook := hrd _ _ _ _ rfl
  split at h
  · obtain ⟨hg, h⟩ := h
    obtain ⟨hc, h⟩ := If.elim h
    simp only [Bool.and_eq_true, decide_eq_true_eq] at hc
    rcases Br.elim h with ⟨hn, h⟩ | ⟨hn, h⟩
    · have hn := of_decide_eq_true hn
      refine ⟨_, _, _, rd, [], h, by omega, fun i hi => ?_, Once.one, fun i o' hi => ?_, fun ρ T a w next Q hr hb _ hnm hnew hnext => ?_⟩
      · rcases hi with hi | hi
        · exact rdlook i hi
        · cases hi
      · simp only [List.mem_singleton, Prod.mk.injEq] at hi
        right; omega
      · obtain ⟨y, y', h1, h2, h3⟩ := two hr
        obtain ⟨news, hs, m1, m4⟩ := hsrc _ _ _ _ rfl hc.1 hg h3 fun i hi => hb i (.inl hi)
        have h2' : y = .slice none 0 0 := h2
        subst h2'
        have hrun := run_append_new (P := P) w t u o.type e inf z hT hinf hz none 0 0 [] (run_firstCells_none w.drew inf.size 0 0 0) y' n news (hsz ▸ hs) (by omega) (by omega) (cap48 _ _ (by omega) (by simpa using hc.2.1)) c.argTypes ha0 ha1
        refine wp_value (runs h1 hrun) (hnext _ _ _ _ (Done.newB (b := w.heap.size) (hnew st.nxt (Nat.le_refl _) (by omega)) (Grow.drewAlloc _ w _) (Nat.le_refl _) (by rw [World.size_alloc]; show w.heap.size < w.heap.size + 1; omega) ?_ ?_))
        · refine ⟨_, alloc_at w.drew _, ?_, fun i hi => ?_⟩
          · rw [Array.size_append, List.size_toArray, List.nil_append]; omega
          · have hlt : (i + 1) * te.size ≤ n * te.size := Nat.mul_le_mul_right _ hi
            rw [Nat.add_mul, Nat.one_mul] at hlt
            rw [Array.toList_append, List.nil_append, List.drop_append_of_le_length (by simp; omega), List.take_append_of_le_length (by simp; omega)]
            exact relL_mono (fun _ _ h => h) (keepT (Nat.le_refl _)) (Grow.drewAlloc T w _) _ _ (m4 i hi)
        · have hge := grownCap_ge w (0 + n) 0 e
          have hle := grownCap_le_maxLen w (0 + n) 0 e (by unfold maxLen; omega)
          refine ⟨w.heap.size, grownCap w (0 + n) 0 e, by simp [named], by rw [Nat.zero_add, Nat.zero_mul], by omega, by unfold maxLen at hle; omega, _, _, _, alloc_at w.drew _, ?_⟩
          rw [Nat.zero_mul, Nat.zero_add, Array.size_append, List.size_toArray, List.nil_append, zeroCells_size, hzs, m1, ← Nat.add_mul]
          exact Nat.mul_le_mul_right _ (by omega)
    · have hn : n = 0 := by have := of_decide_eq_false hn; omega
      subst hn
      refine ⟨.nils, [], st.nxt, rd, [], h, Nat.le_refl _, fun i hi => ?_, Once.nil, by simp, fun ρ T a w next Q hr hb _ _ _ hnext => ?_⟩
      · rcases hi with hi | hi
        · exact rdlook i hi
        · cases hi
      · obtain ⟨y, y', h1, h2, h3⟩ := two hr
        obtain ⟨news, hs, m1, m4⟩ := hsrc _ _ _ _ rfl hc.1 hg h3 fun i hi => hb i (.inl hi)
        have h2' : y = .slice none 0 0 := h2
        subst h2'
        refine wp_value (runs h1 ?_) (hnext (.slice none 0 0) w ρ T (Done.pure rfl))
        rcases hs.kind with ⟨e', hk⟩ | hk <;> simp [Builtin.append_, ha0, ha1, Go.run_underlying hT, Go.run_underlying hk, sizeOf, typeInfo, hinf, hs.len, hsz ▸ hs.cells]
  · rename_i id0 off0
    obtain ⟨hg, h⟩ := h
    obtain ⟨hc, h⟩ := If.elim h
    simp only [Bool.and_eq_true, decide_eq_true_eq] at hc
    rcases Br.elim h with ⟨hn, h⟩ | ⟨hn, h⟩
    · have hn := of_decide_eq_true hn
      refine ⟨_, _, _, rd, [], h, by omega, fun i hi => ?_, Once.one, fun i o' hi => ?_, fun ρ T a w next Q hr hb _ hnm hnew hnext => ?_⟩
      · rcases hi with hi | hi
        · exact rdlook i hi
        · cases hi
      · simp only [List.mem_singleton, Prod.mk.injEq] at hi
        right; omega
      · obtain ⟨y, y', h1, h2, h3⟩ := two hr
        obtain ⟨news, hs, m1, m4⟩ := hsrc _ _ _ _ rfl hc.1 hg h3 fun i hi => hb i (.inl hi)
        obtain ⟨⟨b0, k1, rfl⟩, _⟩ := h2
        have hrun := run_append_new (P := P) w t u o.type e inf z hT hinf hz (some ⟨b0, off0, none⟩) 0 0 [] (run_firstCells_some w.drew inf.size 0 _ 0 0 [] (by simp) (fun j v hj => by simp at hj)) y' n news (hsz ▸ hs) (by omega) (by omega) (cap48 _ _ (by omega) (by simpa using hc.2.1)) c.argTypes ha0 ha1
        refine wp_value (runs h1 hrun) (hnext _ _ _ _ (Done.newB (b := w.heap.size) (hnew st.nxt (Nat.le_refl _) (by omega)) (Grow.drewAlloc _ w _) (Nat.le_refl _) (by rw [World.size_alloc]; show w.heap.size < w.heap.size + 1; omega) ?_ ?_))
        · refine ⟨_, alloc_at w.drew _, ?_, fun i hi => ?_⟩
          · rw [Array.size_append, List.size_toArray, List.nil_append]; omega
          · have hlt : (i + 1) * te.size ≤ n * te.size := Nat.mul_le_mul_right _ hi
            rw [Nat.add_mul, Nat.one_mul] at hlt
            rw [Array.toList_append, List.nil_append, List.drop_append_of_le_length (by simp; omega), List.take_append_of_le_length (by simp; omega)]
            exact relL_mono (fun _ _ h => h) (keepT (Nat.le_refl _)) (Grow.drewAlloc T w _) _ _ (m4 i hi)
        · have hge := grownCap_ge w (0 + n) 0 e
          have hle := grownCap_le_maxLen w (0 + n) 0 e (by unfold maxLen; omega)
          refine ⟨w.heap.size, grownCap w (0 + n) 0 e, by simp [named], by rw [Nat.zero_add, Nat.zero_mul], by omega, by unfold maxLen at hle; omega, _, _, _, alloc_at w.drew _, ?_⟩
          rw [Nat.zero_mul, Nat.zero_add, Array.size_append, List.size_toArray, List.nil_append, zeroCells_size, hzs, m1, ← Nat.add_mul]
          exact Nat.mul_le_mul_right _ (by omega)
    · have hn : n = 0 := by have := of_decide_eq_false hn; omega
      subst hn
      refine ⟨.arr id0 off0 0 0, [], st.nxt, rd, [], h, Nat.le_refl _, fun i hi => ?_, Once.nil, by simp, fun ρ T a w next Q hr hb _ _ _ hnext => ?_⟩
      · rcases hi with hi | hi
        · exact rdlook i hi
        · cases hi
      · obtain ⟨y, y', h1, h2, h3⟩ := two hr
        obtain ⟨news, hs, m1, m4⟩ := hsrc _ _ _ _ rfl hc.1 hg h3 fun i hi => hb i (.inl hi)
        obtain ⟨⟨b0, k1, rfl⟩, k2⟩ := h2
        have hnl : news = [] := List.eq_nil_of_length_eq_zero (by rw [hs.newsLen]; simp)
        subst hnl
        refine wp_value (runs h1 ?_) (hnext (.slice (some ⟨b0, off0, none⟩) 0 0) w ρ T (Done.pure ⟨⟨b0, k1, rfl⟩, k2⟩))
        rcases hs.kind with ⟨e', hk⟩ | hk <;> simp [Builtin.append_, ha0, ha1, Go.run_underlying hT, Go.run_underlying hk, sizeOf, typeInfo, hinf, hs.len, hsz ▸ hs.cells, storeCells]
  · rename_i id sz len
    cases hg0 : Nat.beq sz te.size && !(rd.any (Nat.beq id)) with
    | false => rw [hg0] at h; exact h.elim
    | true =>
    rw [hg0] at h
    simp only [Bool.and_eq_true, cond_true, Bool.not_eq_true'] at hg0 h
    have hsize := Nat.eq_of_beq_eq_true hg0.1
    subst hsize
    have hnot : id ∉ rd := fun hi => by
      have := hg0.2
      rw [List.any_eq_false] at this
      exact this id hi (Nat.beq_refl _)
    split at h
    case h_2 => exact h.elim
    rename_i g0 len' hown
    obtain ⟨hg, h⟩ := h
    obtain ⟨hc, h⟩ := If.elim h
    simp only [Bool.and_eq_true, decide_eq_true_eq] at hc
    obtain ⟨⟨hok, hlen⟩, hc⟩ := hc
    subst hlen
    obtain ⟨sb, hl, hsb⟩ := ownRow_ok hown
    refine ⟨_, _, _, _, _, h, by omega, fun i hi => ?_, ?_, fun i o' hi => ?_, fun ρ T a w next Q hr hb hinj hnm hnew hnext => ?_⟩
    · rcases hi with hi | hi
      · rcases List.mem_cons.1 hi with rfl | hi
        · exact ⟨_, hl⟩
        · exact rdlook i hi
      · obtain rfl := List.mem_singleton.1 hi
        exact ⟨_, hl⟩
    · intro hst i x1 y1 hx1 hy1
      have hlt := hst id _ hl
      simp only [List.mem_cons, Prod.mk.injEq, List.not_mem_nil, or_false] at hx1 hy1
      rcases hx1 with ⟨h1, h2⟩ | ⟨h1, h2⟩ <;> rcases hy1 with ⟨h3, h4⟩ | ⟨h3, h4⟩
      · rw [h2, h4]
      · omega
      · omega
      · rw [h2, h4]
    · simp only [List.mem_cons, Prod.mk.injEq, List.not_mem_nil, or_false] at hi
      rcases hi with hi | hi
      · left; simp [hi.1]
      · right; omega
    · obtain ⟨y, y', h1, h2, h3⟩ := two hr
      obtain ⟨news, hs, hnl, hcs⟩ := hsrc _ _ _ _ rfl hok hg h3 fun i hi => hb i (.inl (List.mem_cons_of_mem _ hi))
      obtain ⟨b, cap, k1, hy2, k2, k3, vs0, e0, f0, k4, k5⟩ := h2
      rw [Nat.zero_mul] at hy2
      subst hy2
      obtain ⟨sb', b', j1, j2, hTb, j4⟩ := hb id (.inl (List.mem_cons_self ..))
      rw [hl] at j1; cases j1
      rw [k1] at j2; cases j2
      obtain ⟨vs, j5, j6, j7⟩ := hsb ρ T w b j4
      rw [k4] at j5
      cases j5
      have hn0 := hnew st.nxt (Nat.le_refl _) (by omega)
      have hvl : vs0.toList.length = vs0.size := by simp
      have hbl := hnm id b k1
      have hm0 : (vs0.toList.take (len' * te.size)).length = len' * te.size := by rw [List.length_take]; omega
      have hg0' : ∀ i, i < len' → relL (fun _ => none) T w (g0 i) (((vs0.toList.take (len' * te.size)).drop (i * te.size)).take te.size) := fun i hi => by
        have hlt : (i + 1) * te.size ≤ len' * te.size := Nat.mul_le_mul_right _ hi
        rw [Nat.add_mul, Nat.one_mul] at hlt
        have := j7 i hi
        rw [List.drop_take, List.take_take, Nat.min_eq_left (by omega)]
        exact this
      by_cases hroom : len' + n ≤ cap
      · have hcapm : (len' + n) * te.size ≤ vs0.size := Nat.le_trans (Nat.mul_le_mul_right _ hroom) (by rw [Nat.zero_mul, Nat.zero_add] at k5; exact k5)
        rw [Nat.add_mul] at hcapm
        have hrun := run_append_room (P := P) w t u o.type e e inf hT hinf b len' cap y' n news (hsz ▸ hs) hroom k4 (by rw [hsz]; omega) c.argTypes ha0 ha1
        rw [hsz] at hrun
        have hlen' : (overAt vs0.toList (len' * te.size) news).length = vs0.toList.length := overAt_len (by omega)
        have hG : Grow (fun c => c = b) w (putBlock w b (overAt vs0.toList (len' * te.size) news).toArray e) :=
          Grow.put k4 (by rw [List.size_toArray, hlen']; simp) _ rfl
        have hGT : Grow T w (putBlock w b (overAt vs0.toList (len' * te.size) news).toArray e) := hG.mono fun c _ hc => by rw [hc]; exact hTb
        refine wp_value (runs h1 hrun) (hnext _ _ _ _ (Done.turnB (b := b) hn0 k1 hTb hG (.inl rfl) (by rw [putBlock_size]; exact hbl) ?_ ?_))
        · refine ⟨_, putBlock_at hbl, by rw [List.size_toArray, hlen', hvl, Nat.add_mul]; exact hcapm, fun i hi => ?_⟩
          exact relL_mono (fun _ _ h => h) (fun c _ h => by rcases h with h | rfl; exact h; exact hTb) hGT _ _ (catR_cells hm0 hnl hg0' hcs i hi)
        · refine ⟨b, cap, by simp [named], by rw [Nat.zero_mul], hroom, k3, _, _, _, putBlock_at hbl, ?_⟩
          rw [List.size_toArray, hlen', hvl]; exact k5
      · have hold : (Builtin.firstCells inf.size len' (.slice (some ⟨b, 0, none⟩) len' cap)).run P w.drew = .ok (vs0.toList.take (len' * te.size)).toArray w.drew := by
          refine run_firstCells_some w.drew inf.size len' ⟨b, 0, none⟩ len' cap _ (by rw [hsz, hm0]) fun j u hj => ?_
          rw [add_off]
          have : w.drew.cell? ⟨b, 0 + j, none⟩ = vs0[0 + j]? := cell_of (w := w.drew) k4 _
          rw [this, Nat.zero_add]
          rw [List.getElem?_take] at hj
          split at hj
          · rw [← Array.getElem?_toList]; exact hj
          · cases hj
        have hrun := run_append_new (P := P) w t u o.type e inf z hT hinf hz (some ⟨b, 0, none⟩) len' cap _ hold y' n news (hsz ▸ hs) (by omega) (by omega) (cap48 _ _ (by omega) hc.1) c.argTypes ha0 ha1
        refine wp_value (runs h1 hrun) (hnext _ _ _ _ (Done.turnB (b := w.heap.size) hn0 k1 hTb (Grow.drewAlloc _ w _) (.inr (Nat.le_refl _)) (by rw [World.size_alloc]; show w.heap.size < w.heap.size + 1; omega) ?_ ?_))
        · refine ⟨_, alloc_at w.drew _, ?_, fun i hi => ?_⟩
          · rw [Array.size_append, List.size_toArray, List.length_append, hm0, hnl, Nat.add_mul]; omega
          · rw [Array.toList_append]
            exact relL_mono (fun _ _ h => h) (keepT (Nat.le_refl _)) (Grow.drewAlloc T w _) _ _ (catR_cells hm0 hnl hg0' hcs i hi)
        · have hge := grownCap_ge w (len' + n) cap e
          have hle := grownCap_le_maxLen w (len' + n) cap e (by unfold maxLen; omega)
          refine ⟨w.heap.size, grownCap w (len' + n) cap e, by simp [named], by rw [Nat.zero_mul], by omega, by unfold maxLen at hle; omega, _, _, _, alloc_at w.drew _, ?_⟩
          rw [Nat.zero_mul, Nat.zero_add, Array.size_append, List.size_toArray, List.length_append, zeroCells_size, hzs, hm0, hnl, ← Nat.add_mul, ← Nat.add_mul]
          exact Nat.mul_le_mul_right _ (by omega)
  · exact h.elim

omit htt in
theorem strG_ok {T : Nat → Prop} {w : World} (s : ByteArray) : ∀ i, i < s.size → relL (fun _ => none) T w (strG s i) (((Go.byteCells s).drop (i * 1)).take 1) := by
  intro i hi
  have hl : i < s.data.toList.length := by rw [Array.length_toList]; exact hi
  have hb : i < (Go.byteCells s).length := by rw [Go.byteCells_length]; exact hi
  rw [Nat.mul_one, List.drop_eq_getElem_cons hb, List.take_succ_cons, List.take_zero]
  refine ⟨_, _, rfl, ?_, rfl⟩
  have e : (Go.byteCells s)[i] = Value.int .u8 (s.data.getD i 0).toNat := by
    show ((s.data.toList.map fun b => Value.int .u8 b.toNat)[i]'(by rw [List.length_map]; exact hl)) = _
    rw [List.getElem_map, Array.getElem_toList, Array.getD_eq_getD_getElem?, Array.getElem?_eq_getElem (by simpa using hl)]; rfl
  refine ⟨e, ?_⟩
  have := (s.data.getD i 0).toNat_lt
  show (0 : Int) ≤ _ ∧ _ ≤ (255 : Int)
  omega

theorem good_appendS {c : Call} {t u : TypeId} {s x : SV} {ts : List TypeId} (hexec : ∀ (a : Act), execOp a.eval o = Go.builtin .append c.argTypes o.type (c.args.map fun | .const _ => true | _ => false) (c.args.map a.eval))
    (hargs : ∀ (ρ : Names) (T : Nat → Prop) (a : Act) (w : World), (∀ x, x ∈ o.op.operands → rel ρ T w (eval st.tmps x) (a.eval x)) → relL ρ T w [s, x] (c.args.map a.eval).toList)
    (hts : c.argTypes.toList = t :: u :: ts) {ti tu te : TI} {e : TypeId} (ht : env.tt t = some ti) (hu : env.tt u = some tu) (hk : ti.kind = .slice e) (hk' : tu.kind = .string) (hte : env.tt e = some te) {y : ByteArray} (hx : x = .str y)
    (hz0 : te.zero.length = te.size) (h1 : te.size = 1) (h : appendR st e te s (some (y.size, strG y, [], true)) K) : Good P st o K := by
  have ha0 : c.argTypes[0]? = some t := by rw [← Array.getElem?_toList, hts]; rfl
  have ha1 : c.argTypes[1]? = some u := by rw [← Array.getElem?_toList, hts]; rfl
  have hzl := hz0
  have hT := kind_slice (htt _ _ ht) hk
  obtain ⟨⟨inf, hinf, hsz, hby, z, hz, hzc⟩, _, _⟩ := htt _ _ hte
  have hzs : z.cells.size = te.size := by
    have := relL_len (zeroCells_rel (fun _ => none) (fun _ => False) default z.cells.toList te.zero hzc)
    rw [← hzl, this]; simp
  have two : ∀ {ρ : Names} {T : Nat → Prop} {w : World} {a : Act}, relL ρ T w [s, x] (c.args.map a.eval).toList → ∃ y y', c.args.map a.eval = #[y, y'] ∧ rel ρ T w s y ∧ rel ρ T w x y' := by
    rintro ρ T w a ⟨y, r, h1, h2, y', r', h3, h4, h5⟩
    have h5' : r' = [] := h5
    subst h5'; subst h3
    exact ⟨y, y', by apply Array.ext'; exact h1, h2, h4⟩
  have runs : ∀ {a : Act} {w w' : World} {y y' v : Value}, c.args.map a.eval = #[y, y'] → (Builtin.append_ c.argTypes o.type #[y, y']).run P w = .ok v w' → (execOp a.eval o).run P w = .ok (.value v) w' := fun h1 h2 => by
    rw [hexec, h1]
    show (do Pure.pure (Next.value (← Builtin.append_ c.argTypes o.type #[_, _]))).run P _ = _
    rw [Sem.run_bind, h2]; rfl
  have cap48 : ∀ (need old : Nat), old < need → need * te.bytes ≤ 1099511627776 → Builtin.nextslicecap need old * inf.bytes ≤ 281474976710656 := fun need old h1 h2 => by
    have h3 := nextslicecap_le h1
    rw [hby]
    have : Builtin.nextslicecap need old * te.bytes ≤ 2 * need * te.bytes := Nat.mul_le_mul_right _ h3
    rw [Nat.mul_assoc] at this
    omega
  refine good_appendR hT (fun n g rd ok hR => by cases hR; exact fun i hi => by cases hi) (fun n g rd ok hR _ _ ρ T w v h3 _ => ?_) hinf hsz hby hz hzs (fun hr => two (hargs _ _ _ _ hr)) runs cap48 ha0 ha1 h
  cases hR
  rw [hx] at h3
  obtain ⟨rfl, _⟩ := h3
  rw [h1]
  exact ⟨Go.byteCells y, Src.ofString w (kind_string (htt _ _ hu) hk') y, by rw [Go.byteCells_length, Nat.mul_one], strG_ok y⟩

theorem good_append {c : Call} {t u : TypeId} {s x : SV} {ts : List TypeId} (hexec : ∀ (a : Act), execOp a.eval o = Go.builtin .append c.argTypes o.type (c.args.map fun | .const _ => true | _ => false) (c.args.map a.eval))
    (hargs : ∀ (ρ : Names) (T : Nat → Prop) (a : Act) (w : World), (∀ x, x ∈ o.op.operands → rel ρ T w (eval st.tmps x) (a.eval x)) → relL ρ T w [s, x] (c.args.map a.eval).toList)
    (hts : c.argTypes.toList = t :: u :: ts) (h : appendE env t u s x st K) : Good P st o K := by
  have ha0 : c.argTypes[0]? = some t := by rw [← Array.getElem?_toList, hts]; rfl
  have ha1 : c.argTypes[1]? = some u := by rw [← Array.getElem?_toList, hts]; rfl
  unfold appendE at h
  split at h
  case h_2 => exact h.elim
  rename_i ti tu ht hu
  split at h
  case h_3 => exact h.elim
  case h_2 =>
    rename_i e hk hk'
    split at h
    case h_2 => exact h.elim
    rename_i te y hte
    cases hz0 : Nat.beq te.zero.length te.size && Nat.beq te.size 1 with
    | false => rw [hz0] at h; exact h.elim
    | true =>
    rw [hz0] at h
    simp only [Bool.and_eq_true] at hz0
    exact good_appendS htt hexec hargs hts ht hu hk hk' hte rfl (Nat.eq_of_beq_eq_true hz0.1) (Nat.eq_of_beq_eq_true hz0.2) h
  rename_i e e' hk hk'
  split at h
  case h_2 => exact h.elim
  rename_i te hte
  cases hz0 : Nat.beq te.zero.length te.size && Nat.blt 0 te.size with
  | false => rw [hz0] at h; exact h.elim
  | true =>
  rw [hz0] at h
  simp only [Bool.and_eq_true, cond_true] at hz0 h
  have hzl := Nat.eq_of_beq_eq_true hz0.1
  have hpos : 0 < te.size := Nat.le_of_ble_eq_true hz0.2
  have hT := kind_slice (htt _ _ ht) hk
  have hU := kind_slice (htt _ _ hu) hk'
  obtain ⟨⟨inf, hinf, hsz, hby, z, hz, hzc⟩, _, _⟩ := htt _ _ hte
  have hzs : z.cells.size = te.size := by
    have := relL_len (zeroCells_rel (fun _ => none) (fun _ => False) default z.cells.toList te.zero hzc)
    rw [← hzl, this]; simp
  have two : ∀ {ρ : Names} {T : Nat → Prop} {w : World} {a : Act}, relL ρ T w [s, x] (c.args.map a.eval).toList → ∃ y y', c.args.map a.eval = #[y, y'] ∧ rel ρ T w s y ∧ rel ρ T w x y' := by
    rintro ρ T w a ⟨y, r, h1, h2, y', r', h3, h4, h5⟩
    have h5' : r' = [] := h5
    subst h5'; subst h3
    exact ⟨y, y', by apply Array.ext'; exact h1, h2, h4⟩
  have runs : ∀ {a : Act} {w w' : World} {y y' v : Value}, c.args.map a.eval = #[y, y'] → (Builtin.append_ c.argTypes o.type #[y, y']).run P w = .ok v w' → (execOp a.eval o).run P w = .ok (.value v) w' := fun h1 h2 => by
    rw [hexec, h1]
    show (do Pure.pure (Next.value (← Builtin.append_ c.argTypes o.type #[_, _]))).run P _ = _
    rw [Sem.run_bind, h2]; rfl
  have cap48 : ∀ (need old : Nat), old < need → need * te.bytes ≤ 1099511627776 → Builtin.nextslicecap need old * inf.bytes ≤ 281474976710656 := fun need old h1 h2 => by
    have h3 := nextslicecap_le h1
    rw [hby]
    have : Builtin.nextslicecap need old * te.bytes ≤ 2 * need * te.bytes := Nat.mul_le_mul_right _ h3
    rw [Nat.mul_assoc] at this
    omega
  split at h
  case h_2 =>
    exact good_appendR hT (fun n g rd ok hR => rowOf_rd hR) (fun n g rd ok hR h1 h2 _ _ _ _ h3 h4 => rowOf_ok hR h1 hU h2 h3 h4) hinf hsz hby hz hzs (fun hr => two (hargs _ _ _ _ hr)) runs cap48 ha0 ha1 h
  rename_i n cs rd hsrc
  have rdlook := src_rd hsrc
  split at h
  · -- nothing so far
    split at h
    · refine ⟨.nils, [], st.nxt, rd, [], h, Nat.le_refl _, fun i hi => ?_, Once.nil, by simp, fun ρ T a w next Q hr hb _ _ _ hnext => ?_⟩
      · rcases hi with hi | hi
        · exact rdlook i hi
        · cases hi
      · obtain ⟨y, y', h1, h2, h3⟩ := two (hargs ρ T a w hr)
        obtain ⟨news, hs, _⟩ := src_ok hsrc hU h3 fun i hi => hb i (.inl hi)
        have h2' : y = .slice none 0 0 := h2
        subst h2'
        refine wp_value (runs h1 ?_) (hnext (.slice none 0 0) w ρ T (Done.pure rfl))
        rcases hs.kind with ⟨e', hk⟩ | hk <;> simp [Builtin.append_, ha0, ha1, Go.run_underlying hT, Go.run_underlying hk, sizeOf, typeInfo, hinf, hs.len, hsz ▸ hs.cells]
    · rename_i n
      obtain ⟨hc, h⟩ := If.elim h
      simp only [Bool.and_eq_true, decide_eq_true_eq] at hc
      refine ⟨_, _, _, rd, [], h, by omega, fun i hi => ?_, Once.one, fun i o' hi => ?_, fun ρ T a w next Q hr hb _ hnm hnew hnext => ?_⟩
      · rcases hi with hi | hi
        · exact rdlook i hi
        · cases hi
      · simp only [List.mem_singleton, Prod.mk.injEq] at hi
        right; omega
      · obtain ⟨y, y', h1, h2, h3⟩ := two (hargs ρ T a w hr)
        obtain ⟨news, hs, hcs⟩ := src_ok hsrc hU h3 fun i hi => hb i (.inl hi)
        have h2' : y = .slice none 0 0 := h2
        subst h2'
        have hrun := run_append_new (P := P) w t u o.type e inf z hT hinf hz none 0 0 [] (run_firstCells_none w.drew inf.size 0 0 0) y' (n + 1) news (hsz ▸ hs) (by omega) (by omega) (cap48 _ _ (by omega) (by simpa using hc.1)) c.argTypes ha0 ha1
        refine wp_value (runs h1 hrun) (hnext _ _ _ _ (Done.newB (b := w.heap.size) (hnew st.nxt (Nat.le_refl _) (by omega)) (Grow.drewAlloc _ w _) (Nat.le_refl _) (by rw [World.size_alloc]; show w.heap.size < w.heap.size + 1; omega) ?_ ?_))
        · refine ⟨_, alloc_at w.drew _, news, (Builtin.zeroCells z.cells (grownCap w (0 + (n + 1)) 0 e - (0 + (n + 1)))).toList, by simp, ?_⟩
          exact relL_mono (keepN (hnew st.nxt (Nat.le_refl _) (by omega)) _) (keepT (Nat.le_refl _)) (Grow.drewAlloc T w _) _ _ hcs
        · have hl := hs.newsLen
          have hge := grownCap_ge w (0 + (n + 1)) 0 e
          have hle := grownCap_le_maxLen w (0 + (n + 1)) 0 e (by unfold maxLen; omega)
          refine ⟨w.heap.size, grownCap w (0 + (n + 1)) 0 e, by simp [named], by rw [Nat.zero_add, Nat.zero_mul], by omega, by unfold maxLen at hle; omega, _, _, _, alloc_at w.drew _, ?_⟩
          rw [Nat.zero_mul, Nat.zero_add, Array.size_append, List.size_toArray, List.nil_append, zeroCells_size, hzs, hl, ← Nat.add_mul]
          exact Nat.mul_le_mul_right _ (by omega)
  · rename_i id0 off0
    split at h
    · refine ⟨.arr id0 off0 0 0, [], st.nxt, rd, [], h, Nat.le_refl _, fun i hi => ?_, Once.nil, by simp, fun ρ T a w next Q hr hb _ _ _ hnext => ?_⟩
      · rcases hi with hi | hi
        · exact rdlook i hi
        · cases hi
      · obtain ⟨y, y', h1, h2, h3⟩ := two (hargs ρ T a w hr)
        obtain ⟨news, hs, _⟩ := src_ok hsrc hU h3 fun i hi => hb i (.inl hi)
        obtain ⟨⟨b0, k1, rfl⟩, k2⟩ := h2
        have hnl : news = [] := List.eq_nil_of_length_eq_zero (by rw [hs.newsLen]; simp)
        subst hnl
        refine wp_value (runs h1 ?_) (hnext (.slice (some ⟨b0, off0, none⟩) 0 0) w ρ T (Done.pure ⟨⟨b0, k1, rfl⟩, k2⟩))
        rcases hs.kind with ⟨e', hk⟩ | hk <;> simp [Builtin.append_, ha0, ha1, Go.run_underlying hT, Go.run_underlying hk, sizeOf, typeInfo, hinf, hs.len, hsz ▸ hs.cells, storeCells]
    · rename_i n
      obtain ⟨hc, h⟩ := If.elim h
      simp only [Bool.and_eq_true, decide_eq_true_eq] at hc
      refine ⟨_, _, _, rd, [], h, by omega, fun i hi => ?_, Once.one, fun i o' hi => ?_, fun ρ T a w next Q hr hb _ hnm hnew hnext => ?_⟩
      · rcases hi with hi | hi
        · exact rdlook i hi
        · cases hi
      · simp only [List.mem_singleton, Prod.mk.injEq] at hi
        right; omega
      · obtain ⟨y, y', h1, h2, h3⟩ := two (hargs ρ T a w hr)
        obtain ⟨news, hs, hcs⟩ := src_ok hsrc hU h3 fun i hi => hb i (.inl hi)
        obtain ⟨⟨b0, k1, rfl⟩, _⟩ := h2
        have hrun := run_append_new (P := P) w t u o.type e inf z hT hinf hz (some ⟨b0, off0, none⟩) 0 0 [] (run_firstCells_some w.drew inf.size 0 _ 0 0 [] (by simp) (fun j v hj => by simp at hj)) y' (n + 1) news (hsz ▸ hs) (by omega) (by omega) (cap48 _ _ (by omega) (by simpa using hc.1)) c.argTypes ha0 ha1
        refine wp_value (runs h1 hrun) (hnext _ _ _ _ (Done.newB (b := w.heap.size) (hnew st.nxt (Nat.le_refl _) (by omega)) (Grow.drewAlloc _ w _) (Nat.le_refl _) (by rw [World.size_alloc]; show w.heap.size < w.heap.size + 1; omega) ?_ ?_))
        · refine ⟨_, alloc_at w.drew _, news, (Builtin.zeroCells z.cells (grownCap w (0 + (n + 1)) 0 e - (0 + (n + 1)))).toList, by simp, ?_⟩
          exact relL_mono (keepN (hnew st.nxt (Nat.le_refl _) (by omega)) _) (keepT (Nat.le_refl _)) (Grow.drewAlloc T w _) _ _ hcs
        · have hl := hs.newsLen
          have hge := grownCap_ge w (0 + (n + 1)) 0 e
          have hle := grownCap_le_maxLen w (0 + (n + 1)) 0 e (by unfold maxLen; omega)
          refine ⟨w.heap.size, grownCap w (0 + (n + 1)) 0 e, by simp [named], by rw [Nat.zero_add, Nat.zero_mul], by omega, by unfold maxLen at hle; omega, _, _, _, alloc_at w.drew _, ?_⟩
          rw [Nat.zero_mul, Nat.zero_add, Array.size_append, List.size_toArray, List.nil_append, zeroCells_size, hzs, hl, ← Nat.add_mul]
          exact Nat.mul_le_mul_right _ (by omega)
  · -- onto one's own
    rename_i id sz len
    cases hg : Nat.beq sz te.size && !(rd.any (Nat.beq id)) with
    | false => rw [hg] at h; exact h.elim
    | true =>
    rw [hg] at h
    simp only [Bool.and_eq_true, cond_true, Bool.not_eq_true'] at hg h
    have hsize := Nat.eq_of_beq_eq_true hg.1
    have hnot : id ∉ rd := fun hi => by
      have := hg.2
      rw [List.any_eq_false] at this
      exact this id hi (Nat.beq_refl _)
    split at h
    · rename_i e'' css hl
      cases hg2 : Nat.beq e'' e with
      | false => rw [hg2] at h; exact h.elim
      | true =>
      rw [hg2] at h
      have hee := Nat.eq_of_beq_eq_true hg2
      subst hee
      subst hsize
      obtain ⟨hc, h⟩ := If.elim (show If _ _ from h)
      simp only [Bool.and_eq_true, decide_eq_true_eq] at hc
      obtain ⟨hc, hcl⟩ := hc
      refine ⟨_, _, _, _, _, h, by omega, fun i hi => ?_, ?_, fun i o' hi => ?_, fun ρ T a w next Q hr hb hinj hnm hnew hnext => ?_⟩
      · rcases hi with hi | hi
        · rcases List.mem_cons.1 hi with rfl | hi
          · exact ⟨_, hl⟩
          · exact rdlook i hi
        · obtain rfl := List.mem_singleton.1 hi
          exact ⟨_, hl⟩
      · intro hst i x1 y1 hx1 hy1
        have hlt := hst id _ hl
        simp only [List.mem_cons, Prod.mk.injEq, List.not_mem_nil, or_false] at hx1 hy1
        rcases hx1 with ⟨h1, h2⟩ | ⟨h1, h2⟩ <;> rcases hy1 with ⟨h3, h4⟩ | ⟨h3, h4⟩
        · rw [h2, h4]
        · omega
        · omega
        · rw [h2, h4]
      · simp only [List.mem_cons, Prod.mk.injEq, List.not_mem_nil, or_false] at hi
        rcases hi with hi | hi
        · left; simp [hi.1]
        · right; omega
      · obtain ⟨y, y', h1, h2, h3⟩ := two (hargs ρ T a w hr)
        obtain ⟨news, hs, hcs⟩ := src_ok hsrc hU h3 fun i hi => hb i (.inl (List.mem_cons_of_mem _ hi))
        obtain ⟨b, cap, k1, hy2, k2, k3, vs0, e0, f0, k4, k5⟩ := h2
        rw [Nat.zero_mul] at hy2
        subst hy2
        obtain ⟨sb, b', j1, j2, hTb, j4⟩ := hb id (.inl (List.mem_cons_self ..))
        rw [hl] at j1; cases j1
        rw [k1] at j2; cases j2
        obtain ⟨vs, j5, m, r, j6, j7⟩ := j4
        rw [k4] at j5
        cases j5
        have hml := relL_len j7
        have hnl := hs.newsLen
        have hn0 := hnew st.nxt (Nat.le_refl _) (by omega)
        have hvl : vs0.toList.length = vs0.size := by simp
        have hbl := hnm id b k1
        by_cases hroom : len + n ≤ cap
        · have hcapm : (len + n) * te.size ≤ vs0.size := Nat.le_trans (Nat.mul_le_mul_right _ hroom) (by rw [Nat.zero_mul, Nat.zero_add] at k5; exact k5)
          rw [Nat.add_mul] at hcapm
          have hrun := run_append_room (P := P) w t u o.type e'' e'' inf hT hinf b len cap y' n news (hsz ▸ hs) hroom k4 (by rw [hsz]; omega) c.argTypes ha0 ha1
          rw [hsz] at hrun
          have hlen' : (overAt vs0.toList (len * te.size) news).length = vs0.toList.length := overAt_len (by omega)
          have hov : overAt vs0.toList (len * te.size) news = (m ++ news) ++ r.drop news.length := by
            unfold overAt
            have hmm : m.length = len * te.size := by omega
            rw [j6, ← hmm, List.take_left, show m.length + news.length = m.length + news.length from rfl, ← List.drop_drop, List.drop_left]
          have hG : Grow (fun c => c = b) w (putBlock w b (overAt vs0.toList (len * te.size) news).toArray e'') :=
            Grow.put k4 (by rw [List.size_toArray, hlen']; simp) _ rfl
          have hGT : Grow T w (putBlock w b (overAt vs0.toList (len * te.size) news).toArray e'') := hG.mono fun c _ hc => by rw [hc]; exact hTb
          refine wp_value (runs h1 hrun) (hnext _ _ _ _ (Done.turnB (b := b) hn0 k1 hTb hG (.inl rfl) (by rw [putBlock_size]; exact hbl) ?_ ?_))
          · refine ⟨_, putBlock_at hbl, m ++ news, r.drop news.length, by simp [hov], ?_⟩
            exact relL_mono (keepN hn0 _) (fun c _ h => by rcases h with h | rfl; exact h; exact hTb) hGT _ _ (relL_append j7 hcs)
          · refine ⟨b, cap, by simp [named], by rw [Nat.zero_mul], hroom, k3, _, _, _, putBlock_at hbl, ?_⟩
            rw [List.size_toArray, hlen', hvl]; exact k5
        · have hold : (Builtin.firstCells inf.size len (.slice (some ⟨b, 0, none⟩) len cap)).run P w.drew = .ok m.toArray w.drew := by
            refine run_firstCells_some w.drew inf.size len ⟨b, 0, none⟩ len cap m (by rw [hsz]; omega) fun j u hj => ?_
            rw [add_off]
            have : w.drew.cell? ⟨b, 0 + j, none⟩ = vs0[0 + j]? := cell_of (w := w.drew) k4 _
            rw [this, Nat.zero_add]
            have hjm : j < m.length := (List.getElem?_eq_some_iff.1 hj).1
            rw [← Array.getElem?_toList, j6, List.getElem?_append_left hjm]
            exact hj
          have hrun := run_append_new (P := P) w t u o.type e'' inf z hT hinf hz (some ⟨b, 0, none⟩) len cap m hold y' n news (hsz ▸ hs) (by omega) (by omega) (cap48 _ _ (by omega) hc.1) c.argTypes ha0 ha1
          refine wp_value (runs h1 hrun) (hnext _ _ _ _ (Done.turnB (b := w.heap.size) hn0 k1 hTb (Grow.drewAlloc _ w _) (.inr (Nat.le_refl _)) (by rw [World.size_alloc]; show w.heap.size < w.heap.size + 1; omega) ?_ ?_))
          · refine ⟨_, alloc_at w.drew _, m ++ news, (Builtin.zeroCells z.cells (grownCap w (len + n) cap e'' - (len + n))).toList, by simp, ?_⟩
            exact relL_mono (keepN hn0 _) (keepT (Nat.le_refl _)) (Grow.drewAlloc T w _) _ _ (relL_append j7 hcs)
          · have hge := grownCap_ge w (len + n) cap e''
            have hle := grownCap_le_maxLen w (len + n) cap e'' (by unfold maxLen; omega)
            refine ⟨w.heap.size, grownCap w (len + n) cap e'', by simp [named], by rw [Nat.zero_mul], by omega, by unfold maxLen at hle; omega, _, _, _, alloc_at w.drew _, ?_⟩
            rw [Nat.zero_mul, Nat.zero_add, Array.size_append, List.size_toArray, List.length_append, zeroCells_size, hzs, hnl, ← hml, hcl, ← Nat.add_mul, ← Nat.add_mul]
            exact Nat.mul_le_mul_right _ (by omega)
    · rename_i e'' sz' len' g hl
      cases hg2 : Nat.beq e'' e && (Nat.beq sz' sz && (Nat.beq n 1 && (ids.idsL cs).isEmpty)) with
      | false => rw [hg2] at h; exact h.elim
      | true =>
      rw [hg2] at h
      simp only [Bool.and_eq_true, List.isEmpty_iff] at hg2
      have hee := Nat.eq_of_beq_eq_true hg2.1
      have hss := Nat.eq_of_beq_eq_true hg2.2.1
      have hn1 := Nat.eq_of_beq_eq_true hg2.2.2.1
      have hfl := hg2.2.2.2
      subst hee
      subst hss
      subst hn1
      subst hsize
      obtain ⟨hc, h⟩ := If.elim (show If _ _ from h)
      simp only [Bool.and_eq_true, decide_eq_true_eq] at hc
      obtain ⟨hc, hcl⟩ := hc
      subst hcl
      refine ⟨_, _, _, _, _, h, by omega, fun i hi => ?_, ?_, fun i o' hi => ?_, fun ρ T a w next Q hr hb hinj hnm hnew hnext => ?_⟩
      · rcases hi with hi | hi
        · rcases List.mem_cons.1 hi with rfl | hi
          · exact ⟨_, hl⟩
          · exact rdlook i hi
        · obtain rfl := List.mem_singleton.1 hi
          exact ⟨_, hl⟩
      · intro hst i x1 y1 hx1 hy1
        have hlt := hst id _ hl
        simp only [List.mem_cons, Prod.mk.injEq, List.not_mem_nil, or_false] at hx1 hy1
        rcases hx1 with ⟨h1, h2⟩ | ⟨h1, h2⟩ <;> rcases hy1 with ⟨h3, h4⟩ | ⟨h3, h4⟩
        · rw [h2, h4]
        · omega
        · omega
        · rw [h2, h4]
      · simp only [List.mem_cons, Prod.mk.injEq, List.not_mem_nil, or_false] at hi
        rcases hi with hi | hi
        · left; simp [hi.1]
        · right; omega
      · obtain ⟨y, y', h1, h2, h3⟩ := two (hargs ρ T a w hr)
        obtain ⟨news, hs, hcs⟩ := src_ok hsrc hU h3 fun i hi => hb i (.inl (List.mem_cons_of_mem _ hi))
        obtain ⟨b, cap, k1, hy2, k2, k3, vs0, e0, f0, k4, k5⟩ := h2
        rw [Nat.zero_mul] at hy2
        subst hy2
        obtain ⟨sb, b', j1, j2, hTb, j4⟩ := hb id (.inl (List.mem_cons_self ..))
        rw [hl] at j1; cases j1
        rw [k1] at j2; cases j2
        obtain ⟨vs, j5, j6, j7⟩ := j4
        rw [k4] at j5
        cases j5
        have hnl := hs.newsLen
        rw [Nat.one_mul] at hnl
        have hn0 := hnew st.nxt (Nat.le_refl _) (by omega)
        have hvl : vs0.toList.length = vs0.size := by simp
        have hbl := hnm id b k1
        have hcs0 : relL (fun _ => none) T w cs news := relL_flat _ _ hfl hcs
        -- the cells behind, whatever block they lie in
        have put : ∀ (W : World) (T' : Nat → Prop) (us : List Value), (∀ i, i < len' → (us.drop (i * te.size)).take te.size = (vs0.toList.drop (i * te.size)).take te.size) → (us.drop (len' * te.size)).take te.size = news →
            (∀ (a : List SV) (m : List Value), relL (fun _ => none) T w a m → relL (fun _ => none) T' W a m) →
            ∀ i, i < len' + 1 → relL (fun _ => none) T' W (rowPut len' cs g i) ((us.drop (i * te.size)).take te.size) := by
          intro W T' us hu1 hu2 hm i hi
          by_cases hil : i = len'
          · subst hil
            rw [show rowPut i cs g i = cs by simp [rowPut], hu2]
            exact hm _ _ hcs0
          · rw [show rowPut len' cs g i = g i by simp [rowPut, hil], hu1 i (by omega)]
            exact hm _ _ (j7 i (by omega))
        have hisz : ∀ i, i < len' → i * te.size + te.size ≤ len' * te.size := fun i hi => by
          have : (i + 1) * te.size ≤ len' * te.size := Nat.mul_le_mul_right _ (by omega)
          rw [Nat.add_mul, Nat.one_mul] at this; exact this
        by_cases hroom : len' + 1 ≤ cap
        · have hcapm : (len' + 1) * te.size ≤ vs0.size := Nat.le_trans (Nat.mul_le_mul_right _ hroom) (by rw [Nat.zero_mul, Nat.zero_add] at k5; exact k5)
          have hrun := run_append_room (P := P) w t u o.type e'' e'' inf hT hinf b len' cap y' 1 news (hsz ▸ hs) hroom k4 (by rw [hsz]; rw [Nat.add_mul, Nat.one_mul] at hcapm; omega) c.argTypes ha0 ha1
          rw [hsz] at hrun
          rw [Nat.add_mul, Nat.one_mul] at hcapm
          have hlen' : (overAt vs0.toList (len' * te.size) news).length = vs0.toList.length := overAt_len (by omega)
          have hG : Grow (fun c => c = b) w (putBlock w b (overAt vs0.toList (len' * te.size) news).toArray e'') :=
            Grow.put k4 (by rw [List.size_toArray, hlen']; simp) _ rfl
          have hGT : Grow T w (putBlock w b (overAt vs0.toList (len' * te.size) news).toArray e'') := hG.mono fun c _ hc => by rw [hc]; exact hTb
          refine wp_value (runs h1 hrun) (hnext _ _ _ _ (Done.turnB (b := b) hn0 k1 hTb hG (.inl rfl) (by rw [putBlock_size]; exact hbl) ?_ ?_))
          · refine ⟨_, putBlock_at hbl, by rw [List.size_toArray, hlen', hvl, Nat.add_mul, Nat.one_mul]; exact hcapm, ?_⟩
            refine put _ _ _ (fun i hi => ?_) ?_ fun a m hm => relL_mono (fun _ _ h => h) (fun c _ h => by rcases h with h | rfl; exact h; exact hTb) hGT _ _ hm
            · have := hisz i hi
              apply List.ext_getElem?
              intro k
              rw [List.getElem?_take, List.getElem?_drop, overAt_get (by omega), List.getElem?_take, List.getElem?_drop]
              by_cases hk : k < te.size
              · simp only [if_pos hk]
                rw [if_pos (by omega)]
              · simp only [if_neg hk]
            · apply List.ext_getElem?
              intro k
              rw [List.getElem?_take, List.getElem?_drop, overAt_get (by omega)]
              by_cases hk : k < te.size
              · rw [if_pos hk, if_neg (by omega), if_pos (by omega)]; congr 1; omega
              · rw [if_neg hk, List.getElem?_eq_none (by omega)]
          · refine ⟨b, cap, by simp [named], by rw [Nat.zero_mul], hroom, k3, _, _, _, putBlock_at hbl, ?_⟩
            rw [List.size_toArray, hlen', hvl]; exact k5
        · have hm0 : (vs0.toList.take (len' * te.size)).length = len' * te.size := by rw [List.length_take]; omega
          have hold : (Builtin.firstCells inf.size len' (.slice (some ⟨b, 0, none⟩) len' cap)).run P w.drew = .ok (vs0.toList.take (len' * te.size)).toArray w.drew := by
            refine run_firstCells_some w.drew inf.size len' ⟨b, 0, none⟩ len' cap _ (by rw [hsz, hm0]) fun j u hj => ?_
            rw [add_off]
            have : w.drew.cell? ⟨b, 0 + j, none⟩ = vs0[0 + j]? := cell_of (w := w.drew) k4 _
            rw [this, Nat.zero_add]
            rw [List.getElem?_take] at hj
            split at hj
            · rw [← Array.getElem?_toList]; exact hj
            · cases hj
          have hrun := run_append_new (P := P) w t u o.type e'' inf z hT hinf hz (some ⟨b, 0, none⟩) len' cap _ hold y' 1 news (hsz ▸ hs) (by omega) (by omega) (cap48 _ _ (by omega) hc.1) c.argTypes ha0 ha1
          refine wp_value (runs h1 hrun) (hnext _ _ _ _ (Done.turnB (b := w.heap.size) hn0 k1 hTb (Grow.drewAlloc _ w _) (.inr (Nat.le_refl _)) (by rw [World.size_alloc]; show w.heap.size < w.heap.size + 1; omega) ?_ ?_))
          · refine ⟨_, alloc_at w.drew _, ?_, ?_⟩
            · rw [Array.size_append, List.size_toArray, List.length_append, hm0, hnl, Nat.add_mul, Nat.one_mul]; omega
            · refine put _ _ _ (fun i hi => ?_) ?_ fun a m hm => relL_mono (fun _ _ h => h) (keepT (Nat.le_refl _)) (Grow.drewAlloc T w _) _ _ hm
              · have := hisz i hi
                simp only [Array.toList_append, List.append_assoc]
                rw [List.drop_append_of_le_length (by rw [hm0]; omega), List.take_append_of_le_length (by rw [List.length_drop, hm0]; omega)]
                apply List.ext_getElem?
                intro k
                rw [List.getElem?_take, List.getElem?_drop, List.getElem?_take, List.getElem?_take, List.getElem?_drop]
                by_cases hk : k < te.size
                · simp only [if_pos hk]
                  rw [if_pos (by omega)]
                · simp only [if_neg hk]
              · simp only [Array.toList_append, List.append_assoc]
                rw [List.drop_append, hm0, Nat.sub_self, List.drop_zero, List.drop_eq_nil_of_le (by rw [hm0]; exact Nat.le_refl _), List.nil_append, List.take_append_of_le_length (by omega), List.take_of_length_le (by omega)]
          · have hge := grownCap_ge w (len' + 1) cap e''
            have hle := grownCap_le_maxLen w (len' + 1) cap e'' (by unfold maxLen; omega)
            refine ⟨w.heap.size, grownCap w (len' + 1) cap e'', by simp [named], by rw [Nat.zero_mul], by omega, by unfold maxLen at hle; omega, _, _, _, alloc_at w.drew _, ?_⟩
            rw [Nat.zero_mul, Nat.zero_add, Array.size_append, List.size_toArray, List.length_append, zeroCells_size, hzs, hnl, hm0]
            have : grownCap w (len' + 1) cap e'' * te.size = (len' + 1) * te.size + (grownCap w (len' + 1) cap e'' - (len' + 1)) * te.size := by rw [← Nat.add_mul]; congr 1; omega
            rw [this, Nat.add_mul, Nat.one_mul]; omega
    · exact h.elim
  · exact h.elim
end
end Go.Se

/- Rows copied over others; the text of a builder. -/
namespace Go.Se
variable {P : Program}

theorem isByte_ok {ρ : Names} {T : Nat → Prop} {w : World} {c : List SV} {m : List Value} (h : isByte c = true) (hr : relL ρ T w c m) : m = [.int .u8 (byteN c)] := by
  unfold isByte at h
  split at h
  · obtain ⟨v, r, rfl, ⟨rfl, _⟩, h2⟩ := hr
    have h2' : r = [] := h2
    subst h2'; rfl
  · cases h

/-- A row of bytes in memory. -/
theorem row_bytes {T : Nat → Prop} {w : World} {b off : Nat} {g : Nat → List SV} : ∀ (n : Nat), (∀ i, i < n → isByte (g i) = true) → (∀ i, i < n → relAt T w (g i) b (off + i * 1)) →
    ∃ news : List Value, news = (rowB n g).map (fun x => Value.int .u8 x) ∧ ∀ j u, news[j]? = some u → w.cell? ⟨b, off + j, none⟩ = some u
  | 0, _, _ => ⟨[], by simp [rowB], fun j u h => by simp at h⟩
  | n + 1, hb, h => by
    obtain ⟨news, h1, h2⟩ := row_bytes n (fun i hi => hb i (by omega)) (fun i hi => h i (by omega))
    obtain ⟨m, h5, h6⟩ := relAt_list (g n) _ (h n (by omega))
    have hm := isByte_ok (hb n (by omega)) h5
    have hl : news.length = n := by rw [h1]; simp [rowB]
    refine ⟨news ++ m, by rw [h1, hm]; simp [rowB, List.range_succ], fun j u hj => ?_⟩
    rw [List.getElem?_append] at hj
    split at hj
    · exact h2 j u hj
    · have := h6 _ u hj
      rw [show off + j = off + n * 1 + (j - news.length) by omega]; exact this

/-- A block that is turned, under its name. -/
theorem Done.turnIn {ρ : Names} {T : Nat → Prop} {w w' : World} {n id b : Nat} {o : Option SB} {v : SV} {x : Value} (hid : ρ id = some b) (hT : T b) (hG : Grow (fun c => c = b) w w')
    (hB : ∀ sb, o = some sb → relB ρ T w' sb b) (hv : rel ρ T w' v x) : Done ρ T w n n v [(id, o)] [id] ρ T w' x where
  names := fun _ _ h => h
  only := fun _ _ h => .inl h
  val := hv
  turned := fun i sb hi => by
    simp only [List.mem_singleton, Prod.mk.injEq] at hi
    obtain ⟨rfl, h⟩ := hi
    exact ⟨b, hid, hT, hB sb h.symm⟩
  keys := fun i ob hi => by
    simp only [List.mem_singleton, Prod.mk.injEq] at hi
    left; simp [hi.1]
  cover := fun i hi => by obtain rfl := List.mem_singleton.1 hi; exact ⟨_, List.mem_singleton.2 rfl⟩
  fresh := fun i b h1 h2 _ => by omega
  inj := fun i j b _ h1 h2 _ _ _ => by omega
  grow := hG.mono fun c _ hc => ⟨id, by simp, by rw [hc]; exact hid⟩
  tback := fun _ _ h => h
  below := fun i b h1 h2 _ => by omega
  tkeep := fun _ _ h => .inl h

theorem over_cells {l news : List Value} {off m sz : Nat} (hn : news.length = m * sz) (hfit : (off + m) * sz ≤ l.length) (i : Nat) :
    ((overAt l (off * sz) news).drop (i * sz)).take sz = if off ≤ i ∧ i < off + m then (news.drop ((i - off) * sz)).take sz else (l.drop (i * sz)).take sz := by
  rw [Nat.add_mul] at hfit
  have hf : off * sz + news.length ≤ l.length := by omega
  apply List.ext_getElem?
  intro k
  rw [List.getElem?_take]
  by_cases hk : k < sz
  · rw [if_pos hk, List.getElem?_drop, overAt_get hf]
    by_cases hi : off ≤ i ∧ i < off + m
    · rw [if_pos hi]
      have h1 : off * sz ≤ i * sz := Nat.mul_le_mul_right _ hi.1
      have h2 : (i + 1) * sz ≤ (off + m) * sz := Nat.mul_le_mul_right _ hi.2
      rw [Nat.add_mul, Nat.add_mul, Nat.one_mul] at h2
      rw [if_neg (by omega), if_pos (by omega), List.getElem?_take, if_pos hk, List.getElem?_drop, Nat.sub_mul]
      congr 1; omega
    · rw [if_neg hi, List.getElem?_take, if_pos hk, List.getElem?_drop]
      by_cases h0 : i < off
      · have h2 : (i + 1) * sz ≤ off * sz := Nat.mul_le_mul_right _ h0
        rw [Nat.add_mul, Nat.one_mul] at h2
        rw [if_pos (by omega)]
      · have h2 : (off + m) * sz ≤ i * sz := Nat.mul_le_mul_right _ (by omega)
        rw [Nat.add_mul] at h2
        rw [if_neg (by omega), if_neg (by omega)]
  · rw [if_neg hk]
    split <;> rw [List.getElem?_take, if_neg hk]

section
variable {st : St} {o : Oper} {K : KV} {env : Env} (htt : ∀ t ti, env.tt t = some ti → TIok P t ti)

theorem rowAt_rd {size n : Nat} {x : SV} {g : Nat → List SV} {rd : List Nat} {c : Bool} (h : rowAt st size x = some (n, g, rd, c)) : ∀ i, i ∈ rd → ∃ sb, look st.store i = some sb := by
  intro i hi
  unfold rowAt at h
  split at h
  · rename_i id n' cap
    split at h
    · rename_i e cs hl
      cases hc : (ids.idsL cs).isEmpty with
      | false => rw [hc] at h; cases h
      | true =>
        rw [hc] at h; cases h
        obtain rfl := List.mem_singleton.1 hi
        exact ⟨_, hl⟩
    · cases h
  · rename_i id off sz n'
    split at h
    · rename_i e1 sz' len g' hl
      cases hc : Nat.beq sz size && Nat.beq sz' size with
      | false => rw [hc] at h; cases h
      | true =>
        rw [hc] at h
        cases h
        obtain rfl := List.mem_singleton.1 hi
        exact ⟨_, hl⟩
    · cases h
  · cases h

theorem rowAt_ok {size n : Nat} {x : SV} {g : Nat → List SV} {rd : List Nat} {c : Bool} (h : rowAt st size x = some (n, g, rd, c)) (hc : c = true) {ρ : Names} {T : Nat → Prop} {w : World} {y : Value}
    (hr : rel ρ T w x y) (hb : ∀ i, i ∈ rd → ∃ sb b, look st.store i = some sb ∧ ρ i = some b ∧ T b ∧ relB ρ T w sb b) :
    n < 9223372036854775808 ∧ ∃ b off cap, y = .slice (some ⟨b, off, none⟩) n cap ∧ ∀ i, i < n → relAt T w (g i) b (off + i * size) := by
  unfold rowAt at h
  split at h
  · rename_i id n' cap
    split at h
    · rename_i e cs hl
      cases he : (ids.idsL cs).isEmpty with
      | false => rw [he] at h; cases h
      | true =>
        rw [he] at h; cases h
        have he' : ids.idsL cs = [] := by simpa using he
        obtain ⟨⟨b, k1, rfl⟩, k2⟩ := hr
        obtain ⟨sb, b', j1, j2, _, j4⟩ := hb id (by simp)
        rw [hl] at j1; cases j1
        rw [k1] at j2; cases j2
        obtain ⟨vs, m1, m2⟩ := j4
        refine ⟨k2, b, 0, cap, rfl, fun i hi => ?_⟩
        have := relL_cut (i * size) size m2
        refine relAt_cells (relL_flat _ _ (idsL_of_mem fun v hv => idsL_mem he' v (List.mem_of_mem_drop (List.mem_of_mem_take hv))) this) fun j c hj => ?_
        rw [cell_of m1]
        rw [List.getElem?_take] at hj
        split at hj
        · rw [List.getElem?_drop, Array.getElem?_toList] at hj
          rw [Nat.zero_add]; exact hj
        · cases hj
    · cases h
  · rename_i id off sz n'
    split at h
    · rename_i e1 sz' len g' hl
      cases he : Nat.beq sz size && Nat.beq sz' size with
      | false => rw [he] at h; cases h
      | true =>
        rw [he] at h
        cases h
        simp only [Bool.and_eq_true] at he
        obtain rfl := Nat.eq_of_beq_eq_true he.1
        obtain rfl := Nat.eq_of_beq_eq_true he.2
        have hlen := of_decide_eq_true hc
        obtain ⟨b, cap, k1, rfl, k2, k3, _⟩ := hr
        obtain ⟨sb, b', j1, j2, _, j4⟩ := hb id (by simp)
        rw [hl] at j1; cases j1
        rw [k1] at j2; cases j2
        obtain ⟨vs, m1, m2, m3⟩ := j4
        refine ⟨by omega, b, _, cap, rfl, fun i hi => ?_⟩
        refine relAt_cells (m3 (i + off) (by omega)) fun j c hj => ?_
        rw [cell_of m1]
        rw [List.getElem?_take] at hj
        split at hj
        · rw [List.getElem?_drop, Array.getElem?_toList] at hj
          rw [show off * sz' + i * sz' + j = (i + off) * sz' + j by rw [Nat.add_mul]; omega]; exact hj
        · cases hj
    · cases h
  · cases h

include htt

theorem good_copyR {c : Call} {t u : TypeId} {x y : SV} {ts : List TypeId} (hexec : ∀ (a : Act), execOp a.eval o = Go.builtin .copy c.argTypes o.type (c.args.map fun | .const _ => true | _ => false) (c.args.map a.eval))
    (hargs : ∀ (ρ : Names) (T : Nat → Prop) (a : Act) (w : World), (∀ x, x ∈ o.op.operands → rel ρ T w (eval st.tmps x) (a.eval x)) → relL ρ T w [x, y] (c.args.map a.eval).toList)
    (hts : c.argTypes.toList = t :: u :: ts) {ti te : TI} {e : TypeId} (ht : env.tt t = some ti) (hk : ti.kind = .slice e) (hte : env.tt e = some te) {id off len sz sz' len' n : Nat} {e' : TypeId} {g h : Nat → List SV} {rd : List Nat} {q : Bool}
    (hx : x = .own id off sz len) (hsz : sz = te.size) (hl : look st.store id = some (.row e' sz len' g)) (hy : rowAt st sz y = some (n, h, rd, q)) (hz : sz' = sz)
    (hgood : ∀ i, i < n → (h i).length = sz ∧ (h i).all oneCell = true) (hq : q = true) (hfit : off + len ≤ len')
    (hK : K (.int .i64 (Nat.min n len)) [(id, some (.row e' sz len' (overR off (Nat.min n len) h g)))] st.nxt rd [id]) : Good P st o K := by
  subst hz
  subst hx
  have ha0 : c.argTypes[0]? = some t := by rw [← Array.getElem?_toList, hts]; rfl
  have hT := kind_slice (htt _ _ ht) hk
  have rdlook := rowAt_rd hy
  refine ⟨_, _, _, _, _, hK, Nat.le_refl _, ?_, Once.one, by simp, fun ρ T a w next Q hr hb _ _ _ hnext => ?_⟩
  · intro i hi
    rcases hi with hi | hi
    · exact rdlook i hi
    · obtain rfl := List.mem_singleton.1 hi
      exact ⟨_, hl⟩
  · obtain ⟨v1, r1, e1, h1, v2, r2, e2, h2, e3⟩ := hargs ρ T a w hr
    have e3' : r2 = [] := e3
    subst e3'; subst e2
    have hag : c.args.map a.eval = #[v1, v2] := by apply Array.ext'; exact e1
    obtain ⟨b, cap, j1, rfl, j2, j3, vs0, e0, f0, j4, j5⟩ := h1
    obtain ⟨hn63, b2, o2, cap2, rfl, hat⟩ := rowAt_ok hy hq h2 fun i hi => hb i (.inl hi)
    obtain ⟨sb, b', k1, k2, hTb, k4⟩ := hb id (.inr (by simp))
    rw [hl] at k1; cases k1
    rw [j1] at k2; cases k2
    obtain ⟨vs, l1, l2, l3⟩ := k4
    generalize hm : Nat.min n len = m at *
    have hmn : m ≤ n := by rw [← hm]; exact Nat.min_le_left _ _
    have hml : m ≤ len := by rw [← hm]; exact Nat.min_le_right _ _
    obtain ⟨news, m1, m2, m3, m4⟩ := ro_cells m (fun i hi => hat i (by omega)) (fun i hi => hgood i (by omega))
    have hfit2 : (off + m) * sz' ≤ vs.toList.length := by
      have : (off + m) * sz' ≤ len' * sz' := Nat.mul_le_mul_right _ (by omega)
      rw [Array.length_toList]; omega
    have hfit3 := hfit2
    rw [Nat.add_mul] at hfit3
    have hst := run_storeCells (P := P) (o := off * sz') news 0 vs w l1 (by rw [Array.length_toList] at hfit3; omega) m3
    have hu1 : ∀ w, (Go.underlying t).run P w = .ok (.slice e) w := Go.run_underlying hT
    have hfc := run_firstCells_some (P := P) w sz' m ⟨b2, o2, none⟩ n cap2 news m1 (fun j v hj => by rw [add_off]; exact m2 j v hj)
    have hrun : (execOp a.eval o).run P w = .ok (.value (.int .i64 m)) (putBlock w b (overAt vs.toList (off * sz') news).toArray e') := by
      rw [hexec, hag]
      show (do Pure.pure (Next.value (← Builtin.copy_ c.argTypes o.type #[_, _]))).run P _ = _
      have : (Builtin.copy_ c.argTypes o.type #[.slice (some ⟨b, off * sz', none⟩) len cap, .slice (some ⟨b2, o2, none⟩) n cap2]).run P w = .ok (.int .i64 m) (putBlock w b (overAt vs.toList (off * sz') news).toArray e') := by
        simp only [Builtin.copy_, ha0, List.getElem?_toArray, List.getElem?_cons_zero, List.getElem?_cons_succ, Sem.run_bind, hu1, Result.andThen_ok, Builtin.lenOf, Sem.run_pure, (htt _ _ hte).sizeOf, ← hsz, hm, hfc]
        rw [hst]
        simp [goInt]
      rw [Sem.run_bind, this]; rfl
    have hG : Grow (fun c => c = b) w (putBlock w b (overAt vs.toList (off * sz') news).toArray e') :=
      Grow.put l1 (by rw [List.size_toArray, overAt_len (by omega)]; simp) _ rfl
    have hGT : Grow T w (putBlock w b (overAt vs.toList (off * sz') news).toArray e') :=
      hG.mono fun c _ hc => by rw [hc]; exact hTb
    refine wp_value hrun (hnext _ _ ρ T (Done.turnIn j1 hTb hG (fun sb hsb => ?_) ⟨rfl, ?_⟩))
    · cases hsb
      refine ⟨_, putBlock_at (Array.getElem?_eq_some_iff.1 l1).1, by rw [List.size_toArray, overAt_len (by omega), Array.length_toList]; exact l2, fun i hi => ?_⟩
      have hc := over_cells m1 hfit2 i
      rw [show (overAt vs.toList (off * sz') news).toArray.toList = overAt vs.toList (off * sz') news from by simp, hc]
      refine relL_mono (fun _ _ h => h) (fun _ _ h => h) hGT _ _ ?_
      unfold overR
      by_cases hi2 : off ≤ i ∧ i < off + m
      · rw [if_pos hi2, show (Nat.ble off i && Nat.blt i (off + m)) = true by simp [hi2.1, hi2.2]]
        exact m4 (i - off) (by omega)
      · rw [if_neg hi2, show (Nat.ble off i && Nat.blt i (off + m)) = false by
          rw [Bool.eq_false_iff]; intro hh; simp only [Bool.and_eq_true] at hh; exact hi2 ⟨Nat.le_of_ble_eq_true hh.1, by simpa using hh.2⟩]
        exact l3 i hi
    · show (-9223372036854775808 : Int) ≤ _ ∧ _ ≤ (9223372036854775807 : Int); omega

theorem good_unsafeString {c : Call} {t u : TypeId} {p n : SV} (hexec : ∀ (a : Act), execOp a.eval o = Go.builtin .unsafeString c.argTypes o.type (c.args.map fun | .const _ => true | _ => false) (c.args.map a.eval))
    (hargs : ∀ (ρ : Names) (T : Nat → Prop) (a : Act) (w : World), (∀ x, x ∈ o.op.operands → rel ρ T w (eval st.tmps x) (a.eval x)) → relL ρ T w [p, n] (c.args.map a.eval).toList)
    (hts : c.argTypes.toList = [t, u]) (h : unsafeStringE env t p n st K) : Good P st o K := by
  have hats : c.argTypes = #[t, u] := by apply Array.ext'; exact hts
  unfold unsafeStringE at h
  split at h
  · rename_i k m
    obtain ⟨h0, h⟩ := If.elim h
    have h0 := of_decide_eq_true h0
    subst h0
    refine Good.pure h (OpOK.pure fun ρ T a w hr => ?_)
    obtain ⟨v1, r1, e1, h1, v2, r2, e2, h2, e3⟩ := hargs ρ T a w hr
    have e3' : r2 = [] := e3
    subst e3'; subst e2
    have hag : c.args.map a.eval = #[v1, v2] := by apply Array.ext'; exact e1
    have h1' : v1 = .pointer none := h1
    subst h1'
    obtain ⟨rfl, _⟩ := h2
    refine ⟨.string .empty, ?_, rfl, by decide⟩
    rw [hexec, hag, hats]
    show (do Pure.pure (Next.value (← Builtin.unsafeString_ #[t, u] o.type #[_, _]))).run P _ = _
    have : (Builtin.unsafeString_ #[t, u] o.type #[.pointer none, .int k 0]).run P w = .ok (.string .empty) w := by
      have hdef : Builtin.unsafeString_ #[t, u] o.type #[.pointer none, .int k 0] =
          (do
            let n ← asInt (.int k 0)
            if n < 0 then runtimePanic (.error "unsafe.String: len out of range")
            if n > IntKind.i64.max then unsupported (.unsafePointer "String: a length above the largest int")
            if n = 0 then pure (.string .empty)
            else runtimePanic (.error "unsafe.String: ptr is nil and len is not zero")) := rfl
      have hmax : IntKind.i64.max = 9223372036854775807 := rfl
      rw [hdef]
      simp [asInt, asIntOf, hmax]
    rw [Sem.run_bind, this]; rfl
  · rename_i id m
    split at h
    case h_2 => exact h.elim
    rename_i ti ht
    split at h
    case h_2 => exact h.elim
    rename_i e hk
    split at h
    case h_2 => exact h.elim
    rename_i e' sz len g hl
    generalize hte : env.tt e = q at h
    cases q with
    | none => rw [show (Nat.beq sz 1 && (Nat.beq e' e && false)) = false by simp] at h; exact h.elim
    | some te =>
    cases hc : Nat.beq sz 1 && (Nat.beq e' e && Nat.beq te.size 1) with
    | false => rw [hc] at h; exact h.elim
    | true =>
    rw [hc] at h
    simp only [Bool.and_eq_true] at hc
    obtain rfl := Nat.eq_of_beq_eq_true hc.1
    obtain rfl := Nat.eq_of_beq_eq_true hc.2.1
    have hs1 := Nat.eq_of_beq_eq_true hc.2.2
    obtain ⟨hby, h⟩ := (show _ ∧ If _ _ from h)
    obtain ⟨hlt, h⟩ := If.elim h
    simp only [Bool.and_eq_true, decide_eq_true_eq] at hlt
    obtain ⟨⟨n0, n1⟩, n2⟩ := hlt
    obtain ⟨k, rfl⟩ : ∃ k : Nat, m = (k : Int) := ⟨m.toNat, by omega⟩
    rw [Int.toNat_natCast] at hby h
    obtain ⟨⟨inf, hinf, hsz, _⟩, _, _⟩ := htt _ _ hte
    have hcells : P.cellsOf e' = 1 := by unfold Program.cellsOf; rw [hinf]; show inf.size = 1; omega
    refine ⟨_, _, _, _, _, h, Nat.le_refl _, ?_, Once.one, by simp, fun ρ T a w next Q hr hb _ _ _ hnext => ?_⟩
    · intro i hi
      simp only [List.mem_singleton, or_self] at hi
      subst hi; exact ⟨_, hl⟩
    · obtain ⟨v1, r1, e1, h1, v2, r2, e2, h2, e3⟩ := hargs ρ T a w hr
      have e3' : r2 = [] := e3
      subst e3'; subst e2
      have hag : c.args.map a.eval = #[v1, v2] := by apply Array.ext'; exact e1
      obtain ⟨b, j1, rfl⟩ := h1
      obtain ⟨rfl, _⟩ := h2
      obtain ⟨sb, b', k1, k2, hTb, k4⟩ := hb id (.inr (by simp))
      rw [hl] at k1; cases k1
      rw [j1] at k2; cases k2
      obtain ⟨vs, l1, l2, l3⟩ := k4
      have hat : ∀ i, i < k → relAt T w (g i) b (0 + i * 1) := fun i hi => relAt_cells (l3 i (by omega)) fun j c hj => by
        rw [cell_of l1]
        rw [List.getElem?_take] at hj
        split at hj
        · rw [List.getElem?_drop, Array.getElem?_toList] at hj
          rw [Nat.zero_add]; exact hj
        · cases hj
      obtain ⟨news, h9, h10⟩ := row_bytes k hby hat
      let L : List UInt8 := (rowB k g).map fun n => UInt8.ofNat n.toNat
      have hL : L.length = k := by simp [L, rowB]
      have hnews : ∀ (j : Nat) (x : UInt8), L[j]? = some x → news[j]? = some (Value.int .u8 x.toNat) := by
        intro j x hj
        have hjk : j < k := by rw [← hL]; exact (List.getElem?_eq_some_iff.1 hj).1
        have hr8 : 0 ≤ byteN (g j) ∧ byteN (g j) ≤ 255 := by
          have := l3 j (by omega)
          have hb8 := hby j hjk
          unfold isByte at hb8
          split at hb8
          · rename_i q hq
            rw [hq] at this
            obtain ⟨v, r, _, ⟨_, h5⟩, _⟩ := this
            rw [hq]; exact h5
          · cases hb8
        rw [h9]
        simp only [L, rowB, List.getElem?_map, List.getElem?_range hjk, Option.map_some, Option.some.injEq] at hj ⊢
        rw [← hj]
        congr 1
        have : (UInt8.ofNat (byteN (g j)).toNat).toNat = (byteN (g j)).toNat := by
          rw [UInt8.toNat_ofNat']; omega
        rw [this]; omega
      have hrun0 := Lib.run_unsafeString_row (P := P) w t u o.type e' (kind_ptr (htt _ _ ht) hk) hcells b vs.size (by unfold World.shape?; rw [l1]) L (by intro h0; rw [h0] at hL; simp at hL; omega) (by omega) (by omega)
        (fun j x hj => by rw [add_off]; exact h10 j _ (hnews j x hj))
      rw [hL] at hrun0
      have hrun : (execOp a.eval o).run P w = .ok (.value (.string (bytesOf (rowB k g)))) (w.freeze ⟨b, 0, none⟩ k) := by
        rw [hexec, hag, hats]
        show (do Pure.pure (Next.value (← Builtin.unsafeString_ #[t, u] o.type #[_, _]))).run P _ = _
        rw [Sem.run_bind, hrun0]; rfl
      have hfz : w.freeze ⟨b, 0, none⟩ k = { w with heap := w.heap.modify b fun
          | .cells c elem (lo, hi) => .cells c elem (if lo == hi then (0, 0 + k) else (min lo 0, max hi (0 + k)))
          | o => o } := by
        unfold World.freeze; rw [if_neg (by omega)]; rfl
      have hG : Grow (fun c => c = b) w (w.freeze ⟨b, 0, none⟩ k) := by
        rw [hfz]
        exact {
          size := by simp
          same := fun c hc hn => by
            show (w.heap.modify b _)[c]? = _
            rw [Array.getElem?_modify, if_neg (fun e => hn e.symm)]
          shape := fun c vs1 e1 f1 hc => by
            show ∃ vs' f', (w.heap.modify b _)[c]? = some (.cells vs' e1 f') ∧ _
            rw [Array.getElem?_modify, hc]
            by_cases hcb : b = c
            · rw [if_pos hcb]; obtain ⟨lo, hi⟩ := f1; exact ⟨_, _, rfl, rfl⟩
            · rw [if_neg hcb]; exact ⟨_, _, rfl, rfl⟩
          os := rfl
          output := rfl
          tape := rfl }
      refine wp_value hrun (hnext _ _ ρ T (Done.turnIn j1 hTb hG (fun sb hsb => by cases hsb) ⟨rfl, ?_⟩))
      have : (bytesOf (rowB k g)).size = (rowB k g).length := by simp [bytesOf, ByteArray.size]
      rw [this]; simp [rowB]; omega
  · exact h.elim

omit htt in
theorem good_sliceData {c : Call} {ts : List TypeId} {x : SV} (hexec : ∀ (a : Act), execOp a.eval o = Go.builtin .unsafeSliceData c.argTypes o.type (c.args.map fun | .const _ => true | _ => false) (c.args.map a.eval))
    (hargs : ∀ (ρ : Names) (T : Nat → Prop) (a : Act) (w : World), (∀ x, x ∈ o.op.operands → rel ρ T w (eval st.tmps x) (a.eval x)) → relL ρ T w [x] (c.args.map a.eval).toList)
    (_hts : c.argTypes.toList = ts) (h : sliceDataE x fun v => K v [] st.nxt [] []) : Good P st o K := by
  unfold sliceDataE at h
  have hx1 : ∀ {ρ : Names} {T : Nat → Prop} {a : Act} {w : World}, (∀ x, x ∈ o.op.operands → rel ρ T w (eval st.tmps x) (a.eval x)) → ∃ v, c.args.map a.eval = #[v] ∧ rel ρ T w x v := fun hr => by
    obtain ⟨v1, r1, e1, h1, e3⟩ := hargs _ _ _ _ hr
    have e3' : r1 = [] := e3
    subst e3'
    exact ⟨v1, by apply Array.ext'; exact e1, h1⟩
  split at h
  · refine Good.pure h (OpOK.pure fun ρ T a w hr => ?_)
    obtain ⟨v, hag, h1⟩ := hx1 hr
    have h1' : v = .slice none 0 0 := h1
    subst h1'
    refine ⟨.pointer none, ?_, rfl⟩
    rw [hexec, hag]; rfl
  · rename_i id sz n
    obtain ⟨h0, h⟩ := If.elim h
    have h0 := of_decide_eq_true h0
    refine Good.pure h (OpOK.pure fun ρ T a w hr => ?_)
    obtain ⟨v, hag, h1⟩ := hx1 hr
    obtain ⟨b, cap, j1, rfl, j2, _⟩ := h1
    refine ⟨.pointer (some ⟨b, 0, none⟩), ?_, b, j1, rfl⟩
    rw [hexec, hag]
    show (do Pure.pure (Next.value (← Builtin.unsafeSliceData_ c.argTypes o.type #[_]))).run P _ = _
    rw [Sem.run_bind, Nat.zero_mul, Lib.run_unsafeSliceData_row (P := P) w _ _ _ _ _ (by omega)]; rfl
  · exact h.elim
end
end Go.Se

/- Part 8: builtins. -/
namespace Go.Se
variable {P : Program}

theorem maxL_ok {ρ : Names} {T : Nat → Prop} {w : World} {k : IntKind} : ∀ (l : List SV) (up : Bool) (a n : Int) (vs : List Value), maxL k up a l = some n → relL ρ T w l vs →
    k.min ≤ a ∧ a ≤ k.max →
    (vs.foldlM (if up then Builtin.max2 else Builtin.min2) (.int k a)).run P w = .ok (.int k n) w ∧ k.min ≤ n ∧ n ≤ k.max
  | [], up, a, n, vs, h, hv, ha => by
    simp only [maxL, Option.some.injEq] at h
    subst h; rw [hv]; exact ⟨rfl, ha⟩
  | x :: l, up, a, n, vs, h, ⟨y, r, h1, h2, h3⟩, ha => by
    cases x <;> simp only [maxL, reduceCtorEq] at h
    rename_i j b
    cases hj : decide (j = k) with
    | false => rw [hj] at h; cases h
    | true =>
      rw [hj] at h
      obtain rfl := of_decide_eq_true hj
      simp only [cond_true] at h
      obtain ⟨rfl, hb⟩ := h2
      subst h1
      cases up
      · simp only [cond_false] at h
        obtain ⟨h4, h5⟩ := maxL_ok l false _ n r h h3 (by split <;> assumption)
        refine ⟨?_, h5⟩
        simp only [Bool.false_eq_true, if_false, List.foldlM_cons, Sem.run_bind] at h4 ⊢
        simp only [Builtin.min2, Sem.run_pure, Result.andThen_ok]
        exact h4
      · simp only [cond_true] at h
        obtain ⟨h4, h5⟩ := maxL_ok l true _ n r h h3 (by split <;> assumption)
        refine ⟨?_, h5⟩
        simp only [if_true, List.foldlM_cons, Sem.run_bind] at h4 ⊢
        simp only [Builtin.max2, Sem.run_pure, Result.andThen_ok]
        exact h4

section
variable {st : St} {o : Oper} {K : KV} {env : Env} (htt : ∀ t ti, env.tt t = some ti → TIok P t ti)
include htt

omit htt in
theorem strCells_rel {ρ : Names} {T : Nat → Prop} {w : World} (s : ByteArray) (n : Nat) : relL ρ T w (strCells s n) ((s.data.toList.take n).map fun b => Value.int .u8 b.toNat) := by
  unfold strCells
  generalize s.data.toList.take n = l
  induction l with
  | nil => rfl
  | cons b l ih => exact ⟨_, _, rfl, ⟨rfl, by have := b.toNat_lt; show (0 : Int) ≤ _ ∧ _ ≤ (255 : Int); omega⟩, ih⟩

theorem good_copy {c : Call} {t u : TypeId} {x y : SV} {ts : List TypeId} (hexec : ∀ (a : Act), execOp a.eval o = Go.builtin .copy c.argTypes o.type (c.args.map fun | .const _ => true | _ => false) (c.args.map a.eval))
    (hargs : ∀ (ρ : Names) (T : Nat → Prop) (a : Act) (w : World), (∀ x, x ∈ o.op.operands → rel ρ T w (eval st.tmps x) (a.eval x)) → relL ρ T w [x, y] (c.args.map a.eval).toList)
    (hts : c.argTypes.toList = t :: u :: ts) (h : copyE env t u x y st K) : Good P st o K := by
  have ha0 : c.argTypes[0]? = some t := by rw [← Array.getElem?_toList, hts]; rfl
  unfold copyE at h
  split at h
  case h_2 => exact h.elim
  rename_i ti tu ht hu
  split at h
  case h_3 => exact h.elim
  case h_2 =>
    rename_i e ek id off sz len hk hk'
    split at h
    case h_2 => exact h.elim
    rename_i te hte
    cases hs : Nat.beq sz te.size with
    | false => rw [hs] at h; exact h.elim
    | true =>
    rw [hs] at h
    simp only [cond_true] at h
    split at h
    case h_2 => exact h.elim
    rename_i e' sz' len' g n g2 rd q hl hy
    cases hz : Nat.beq sz' sz with
    | false => rw [hz] at h; exact h.elim
    | true =>
    rw [hz] at h
    obtain rfl := Nat.eq_of_beq_eq_true hz
    obtain ⟨hg, h⟩ := (show _ ∧ If _ _ from h)
    obtain ⟨hc, h⟩ := If.elim h
    simp only [Bool.and_eq_true, decide_eq_true_eq] at hc
    exact good_copyR htt hexec hargs hts ht hk hte rfl (Nat.eq_of_beq_eq_true hs) hl hy rfl hg hc.1 hc.2 h
  rename_i e id off len cap s hk hk'
  split at h
  case h_2 => exact h.elim
  rename_i te hte
  have hT := kind_slice (htt _ _ ht) hk
  cases hs1 : Nat.beq te.size 1 with
  | false => rw [hs1] at h; exact h.elim
  | true =>
  rw [hs1] at h
  simp only [cond_true] at h
  split at h
  case h_2 => exact h.elim
  rename_i e' cs hl
  split at h
  case h_2 => exact h.elim
  rename_i cs' hp
  refine ⟨_, _, _, _, _, h, Nat.le_refl _, ?_, Once.one, by simp, fun ρ T a w next Q hr hb _ _ _ hnext => ?_⟩
  · intro i hi
    simp only [List.mem_singleton, List.not_mem_nil, false_or] at hi
    subst hi; exact ⟨_, hl⟩
  · obtain ⟨v1, r1, e1, h1, v2, r2, e2, h2, e3⟩ := hargs ρ T a w hr
    have e3' : r2 = [] := e3
    subst e3'; subst e2
    have hag : c.args.map a.eval = #[v1, v2] := by apply Array.ext'; exact e1
    obtain ⟨⟨b, j1, rfl⟩, _⟩ := h1
    obtain ⟨rfl, hsz⟩ := h2
    obtain ⟨sb, b', h4, h5, hTb, h6⟩ := hb id (.inr (by simp))
    rw [hl] at h4; cases h4
    rw [j1] at h5; cases h5
    obtain ⟨vs, h7, h8⟩ := h6
    have hcell := strCells_rel (ρ := ρ) (T := T) (w := w) s len
    obtain ⟨h9, h10⟩ := putAt_ok off hp h8 hcell
    have hl1 := relL_len h8
    have hl2 := relL_len hcell
    generalize hn : ((s.data.toList.take len).map fun b => Value.int .u8 b.toNat) = news at hcell h10 hl2
    have hfit : off + news.length ≤ vs.size := by
      rw [← hl2]; simp at hl1; omega
    have hone : ∀ v ∈ news, v.oneCell' = true := fun v hv => by
      rw [← hn] at hv
      obtain ⟨_, _, rfl⟩ := List.mem_map.1 hv
      rfl
    have hcl : ((s.extract 0 (Nat.min s.size len)).data.map fun b => Value.int .u8 b.toNat).toList = news := by
      have hmin : (s.extract 0 (Nat.min s.size len)).data.toList = s.data.toList.take len := by
        rw [ByteArray.data_extract, Array.toList_extract]
        simp only [List.extract_eq_take_drop, List.drop_zero, Nat.sub_zero]
        show s.data.toList.take (Nat.min s.data.size len) = _
        rw [← Array.length_toList]
        rcases Nat.le_total s.data.toList.length len with h | h
        · rw [show Nat.min s.data.toList.length len = s.data.toList.length from Nat.min_eq_left h, List.take_length, List.take_of_length_le h]
        · rw [show Nat.min s.data.toList.length len = len from Nat.min_eq_right h]
      rw [Array.toList_map, hmin]
      exact hn
    have hst := run_storeCells (P := P) (o := off) news 0 vs w h7 (by simpa using hfit) hone
    have hu1 : ∀ w, (Go.underlying t).run P w = .ok (.slice e) w := Go.run_underlying hT
    have hrun : (execOp a.eval o).run P w = .ok (.value (.int .i64 (Nat.min s.size len))) (putBlock w b (overAt vs.toList off news).toArray e') := by
      rw [hexec, hag]
      show (do Pure.pure (Next.value (← Builtin.copy_ c.argTypes o.type #[_, _]))).run P _ = _
      have : (Builtin.copy_ c.argTypes o.type #[.slice (some ⟨b, off, none⟩) len cap, .string s]).run P w = .ok (.int .i64 (Nat.min s.size len)) (putBlock w b (overAt vs.toList off news).toArray e') := by
        simp only [Builtin.copy_, ha0, List.getElem?_toArray, List.getElem?_cons_zero, List.getElem?_cons_succ, Sem.run_bind, hu1, Result.andThen_ok, Builtin.lenOf, Sem.run_pure, (htt _ _ hte).sizeOf, Builtin.firstCells, hcl]
        rw [hst]
        simp [goInt]
      rw [Sem.run_bind, this]; rfl
    refine wp_value hrun (hnext _ _ ρ T ?_)
    have hG : Grow (fun c => c = b) w (putBlock w b (overAt vs.toList off news).toArray e') :=
      Grow.put h7 (by rw [List.size_toArray, overAt_len (by simpa using hfit)]; simp) _ rfl
    have hGT : Grow T w (putBlock w b (overAt vs.toList off news).toArray e') :=
      hG.mono fun c _ hc => by rw [hc]; exact hTb
    exact {
      names := fun _ _ h => h
      only := fun _ _ h => .inl h
      val := ⟨rfl, by
        have := Nat.min_le_left s.size len
        show (-9223372036854775808 : Int) ≤ ((Nat.min s.size len : Nat) : Int) ∧ ((Nat.min s.size len : Nat) : Int) ≤ (9223372036854775807 : Int)
        have h' : Nat.min s.size len ≤ s.size := this
        omega⟩
      turned := fun i sb hi => by
        simp only [List.mem_singleton, Prod.mk.injEq, Option.some.injEq] at hi
        obtain ⟨rfl, rfl⟩ := hi
        exact ⟨b, j1, hTb, _, putBlock_at (Array.getElem?_eq_some_iff.1 h7).1, by
          simpa using relL_mono (fun _ _ h => h) (fun _ _ h => h) hGT _ _ h10⟩
      keys := fun i ob hi => by
        simp only [List.mem_singleton, Prod.mk.injEq] at hi
        left; simp [hi.1]
      cover := fun i hi => by obtain rfl := List.mem_singleton.1 hi; exact ⟨_, List.mem_singleton.2 rfl⟩
      fresh := fun i b h1 h2 _ => by omega
      inj := fun i j b _ h1 h2 _ _ _ => by omega
      grow := hG.mono fun c _ hc => ⟨id, by simp, by rw [hc]; exact j1⟩
      tback := fun _ _ h => h
      below := fun i b h1 h2 _ => by omega
      tkeep := fun _ _ h => .inl h }

theorem good_builtin {c : Call} {b : Builtin} (ho : o.op = .call c) (hc : c.callee = .builtin b) (h : builtinE env b c.argTypes.toList (c.args.toList.map (eval st.tmps)) st K) : Good P st o K := by
  have hexec : ∀ (a : Act), execOp a.eval o = Go.builtin b c.argTypes o.type (c.args.map fun | .const _ => true | _ => false) (c.args.map a.eval) := by
    intro a
    simp only [execOp, ho, resolve, hc, invoke]
    rfl
  have hargs : ∀ (ρ : Names) (T : Nat → Prop) (a : Act) (w : World), (∀ x, x ∈ o.op.operands → rel ρ T w (eval st.tmps x) (a.eval x)) →
      relL ρ T w (c.args.toList.map (eval st.tmps)) (c.args.map a.eval).toList := by
    intro ρ T a w hr
    rw [Array.toList_map]
    refine relL_map _ fun x hx => hr x ?_
    simp only [ho, Op.operands, Call.operands, hc]
    simpa using hx
  unfold builtinE at h
  split at h
  · rename_i t u ts s x hts hxs
    have ht2 : ∃ tl : List TypeId, c.argTypes.toList = t :: u :: tl := ⟨ts, hts⟩
    exact good_append htt hexec (fun ρ T a w hr => by
      have h1 := hargs ρ T a w hr
      rw [hxs] at h1
      exact h1) hts h
  · rename_i t ts x hts hxs
    exact good_clear htt hexec (fun ρ T a w hr => by
      have h1 := hargs ρ T a w hr
      rw [hxs] at h1
      exact h1) hts h
  · rename_i t u ts x y hts hxs
    exact good_copy htt hexec (fun ρ T a w hr => by
      have h1 := hargs ρ T a w hr
      rw [hxs] at h1
      exact h1) hts h
  · rename_i t ts x hts hxs
    have len_case : ∀ (n : Nat) (p : TK → Bool), K (.int .i64 n) [] st.nxt [] [] → (∀ (ρ : Names) (T : Nat → Prop) (w : World) (y : Value), rel ρ T w x y →
        (Builtin.len_ c.argTypes o.type #[y]).run P w = .ok (.int .i64 n) w ∧ n < 9223372036854775808) → Good P st o K := by
      intro n p hK hl
      refine Good.pure hK (OpOK.pure fun ρ T a w hr => ?_)
      have h1 := hargs ρ T a w hr
      rw [hxs] at h1
      obtain ⟨y, r, h2, h3, h4⟩ := h1
      have h4' : r = [] := h4
      subst h4'
      have h5 : c.args.map a.eval = #[y] := by apply Array.ext'; exact h2
      obtain ⟨h6, h7⟩ := hl ρ T w y h3
      refine ⟨.int .i64 n, ?_, rfl, ?_⟩
      · rw [hexec, h5]; simp only [Go.builtin, Sem.run_bind, h6]; rfl
      · show (-9223372036854775808 : Int) ≤ _ ∧ _ ≤ (9223372036854775807 : Int); omega
    have ht0 : c.argTypes[0]? = some t := by rw [← Array.getElem?_toList, hts]; rfl
    have slice_case : ∀ (n : Nat), (bif kindIs env.tt t isSliceK then K (.int .i64 n) [] st.nxt [] [] else False) →
        (∀ (ρ : Names) (T : Nat → Prop) (w : World) (y : Value), rel ρ T w x y → (∃ a m, y = .slice a n m) ∧ n < 9223372036854775808) → Good P st o K := by
      intro n hK hy
      cases hki : kindIs env.tt t isSliceK with
      | false => rw [hki] at hK; exact hK.elim
      | true =>
        rw [hki] at hK
        obtain ⟨ti, ht, hk⟩ := kindIs_elim hki
        obtain ⟨e, hkb⟩ : ∃ e, ti.kind = .slice e := by cases hkk : ti.kind <;> rw [hkk] at hk <;> first | exact ⟨_, rfl⟩ | cases hk
        refine len_case n (fun _ => true) hK fun ρ T w y hr => ?_
        obtain ⟨⟨a, m, rfl⟩, hn⟩ := hy ρ T w y hr
        have hu : ∀ w, (Go.underlying t).run P w = .ok (.slice e) w := fun w => by simp [Go.underlying, kind_slice (htt _ _ ht) hkb]
        refine ⟨?_, hn⟩
        simp [Builtin.len_, ht0, hu, goInt]
    split at h
    · exact slice_case _ h fun ρ T w y hr => by obtain ⟨a, c, rfl, h2, _⟩ := hr; exact ⟨⟨_, _, rfl⟩, h2.2.1⟩
    · exact slice_case _ h fun ρ T w y hr => by obtain ⟨b, c, _, rfl, h2, h3, _⟩ := hr; exact ⟨⟨_, _, rfl⟩, by omega⟩
    · exact slice_case _ h fun ρ T w y hr => by obtain ⟨⟨b, _, rfl⟩, h2⟩ := hr; exact ⟨⟨_, _, rfl⟩, h2⟩
    · exact slice_case 0 h fun ρ T w y hr => by have h' : y = .slice none 0 0 := hr; rw [h']; exact ⟨⟨_, _, rfl⟩, by decide⟩
    · exact slice_case 0 h fun ρ T w y hr => by obtain ⟨a, c, rfl⟩ := hr; exact ⟨⟨_, _, rfl⟩, by decide⟩
    · rename_i s
      cases hki : kindIs env.tt t isStringK with
      | false => rw [hki] at h; exact h.elim
      | true =>
        rw [hki] at h
        obtain ⟨ti, ht, hk⟩ := kindIs_elim hki
        have hkb : ti.kind = .string := by cases hkk : ti.kind <;> rw [hkk] at hk <;> first | rfl | cases hk
        refine len_case s.size (fun _ => true) h fun ρ T w y hr => ?_
        obtain ⟨rfl, hs⟩ := hr
        have hu : ∀ w, (Go.underlying t).run P w = .ok .string w := fun w => by simp [Go.underlying, kind_string (htt _ _ ht) hkb]
        exact ⟨by simp [Builtin.len_, ht0, hu, goInt], hs⟩
    · exact h.elim
  · rename_i k a0 l hxs
    split at h
    · rename_i n hn
      refine Good.pure h (OpOK.pure fun ρ T a w hr => ?_)
      have h1 := hargs ρ T a w hr
      rw [hxs] at h1
      obtain ⟨y, r, h2, ⟨rfl, ha⟩, h4⟩ := h1
      obtain ⟨h5, h6⟩ := maxL_ok (P := P) l true a0 n r hn h4 ha
      refine ⟨.int k n, ?_, rfl, h6⟩
      simp only [if_true] at h5
      rw [hexec]
      simp only [Go.builtin, Builtin.max_, h2, Sem.run_bind, h5]
      rfl
    · exact h.elim
  · rename_i k a0 l hxs
    split at h
    · rename_i n hn
      refine Good.pure h (OpOK.pure fun ρ T a w hr => ?_)
      have h1 := hargs ρ T a w hr
      rw [hxs] at h1
      obtain ⟨y, r, h2, ⟨rfl, ha⟩, h4⟩ := h1
      obtain ⟨h5, h6⟩ := maxL_ok (P := P) l false a0 n r hn h4 ha
      refine ⟨.int k n, ?_, rfl, h6⟩
      simp only [Bool.false_eq_true, if_false] at h5
      rw [hexec]
      simp only [Go.builtin, Builtin.min_, h2, Sem.run_bind, h5]
      rfl
    · exact h.elim
  · rename_i x hxs
    exact good_sliceData hexec (fun ρ T a w hr => by
      have h1 := hargs ρ T a w hr
      rw [hxs] at h1
      exact h1) rfl h
  · rename_i t u p n hts hxs
    exact good_unsafeString htt hexec (fun ρ T a w hr => by
      have h1 := hargs ρ T a w hr
      rw [hxs] at h1
      exact h1) hts h
  · exact h.elim

end
end Go.Se

/- Part 9b: slices of texts and rows; texts of bytes. -/
namespace Go.Se
variable {P : Program} {env : Env} {st : St} {o : Oper} {K : KV} (htt : ∀ t ti, env.tt t = some ti → TIok P t ti)
include htt

omit htt in
theorem byteCells_ok {ρ : Names} {T : Nat → Prop} {w : World} : ∀ {cs : List SV} {m : List Value} {l : List Int}, byteCells cs = some l → relL ρ T w cs m → m = l.map fun n => .int .u8 n
  | [], m, l, h, hr => by
    simp only [byteCells, Option.some.injEq] at h
    subst h; exact hr
  | .int .u8 n :: cs, m, l, h, hr => by
    unfold byteCells at h
    split at h
    · rename_i r hb
      cases h
      obtain ⟨v, q, rfl, hv, hq⟩ := hr
      rw [byteCells_ok hb hq, hv.1]; rfl
    · cases h
  | .int .i8 _ :: _, _, _, h, _ => by cases h
  | .int .i16 _ :: _, _, _, h, _ => by cases h
  | .int .i32 _ :: _, _, _, h, _ => by cases h
  | .int .i64 _ :: _, _, _, h, _ => by cases h
  | .int .u16 _ :: _, _, _, h, _ => by cases h
  | .int .u32 _ :: _, _, _, h, _ => by cases h
  | .int .u64 _ :: _, _, _, h, _ => by cases h
  | .junk :: _, _, _, h, _ => by cases h
  | .bool _ :: _, _, _, h, _ => by cases h
  | .str _ :: _, _, _, h, _ => by cases h
  | .nilp :: _, _, _, h, _ => by cases h
  | .ptr _ _ :: _, _, _, h, _ => by cases h
  | .rptr _ :: _, _, _, h, _ => by cases h
  | .fn _ _ _ :: _, _, _, h, _ => by cases h
  | .nilfn :: _, _, _, h, _ => by cases h
  | .agg _ :: _, _, _, h, _ => by cases h
  | .tup _ :: _, _, _, h, _ => by cases h
  | .nils :: _, _, _, h, _ => by cases h
  | .emp :: _, _, _, h, _ => by cases h
  | .arr _ _ _ _ :: _, _, _, h, _ => by cases h
  | .own _ _ _ _ :: _, _, _, h, _ => by cases h
  | .ro _ _ _ :: _, _, _, h, _ => by cases h
  | .nilI :: _, _, _, h, _ => by cases h
  | .iface _ _ :: _, _, _, h, _ => by cases h

omit htt in
theorem push_all : ∀ (l : List Int) (s : Array UInt8), List.foldl (fun (b : ByteArray) (a : Int) => b.push (UInt8.ofNat a.toNat)) ⟨s⟩ l = ⟨s ++ (l.map fun n => UInt8.ofNat n.toNat).toArray⟩
  | [], s => by simp
  | n :: l, s => by
    rw [List.foldl_cons, ByteArray.push, push_all l]
    simp

theorem good_bytes {src dst : TypeId} {x : Operand} {id off len c : Nat} (ho : o.op = .convert src dst x) (hx : eval st.tmps x = .arr id off len c) (h : bytesE env src dst id off len st K) : Good P st o K := by
  unfold bytesE at h
  split at h
  · rename_i ts td hs hd
    split at h
    · rename_i e hk hk'
      split at h
      · rename_i te hte
        split at h
        · rename_i hke
          split at h
          · rename_i ee cs hl
            split at h
            · rename_i l hb
              cases hlen : Nat.beq l.length len with
              | false => rw [hlen] at h; exact h.elim
              | true =>
                rw [hlen] at h
                obtain ⟨hsz, h⟩ := If.elim h
                have hlen := Nat.eq_of_beq_eq_true hlen
                refine ⟨_, [], st.nxt, [id], [], h, Nat.le_refl _, ?_, Once.nil, by simp, fun ρ T a w next Q hr hb' _ _ _ hnext => ?_⟩
                · intro i hi
                  simp only [List.mem_singleton, List.not_mem_nil, or_false] at hi
                  subst hi; exact ⟨_, hl⟩
                · have h1 := hr x (by simp [ho, Op.operands])
                  rw [hx] at h1
                  obtain ⟨⟨b, h2, h3⟩, _⟩ := h1
                  obtain ⟨sb, b', h4, h5, _, h6⟩ := hb' id (.inl (by simp))
                  rw [hl] at h4; cases h4
                  rw [h2] at h5; cases h5
                  obtain ⟨vs, h7, h8⟩ := h6
                  have hc := relL_cut off len h8
                  have hm := byteCells_ok hb hc
                  have hll : ((vs.toList.drop off).take len).length = len := by rw [hm, List.length_map, hlen]
                  have hof : off + len ≤ vs.size ∨ len = 0 := by
                    rw [List.length_take, List.length_drop] at hll
                    have : vs.toList.length = vs.size := by simp
                    omega
                  have hload : (loadCells ⟨b, off, none⟩ len).run P w = .ok ((vs.toList.drop off).take len).toArray w := by
                    rcases hof with hof | h0
                    · exact run_loadCells h7 hof
                    · subst h0; simp [loadCells, loadCellsFrom]
                  have hu1 : ∀ w, (Go.underlying src).run P w = .ok (.slice e) w := fun w => by simp [Go.underlying, kind_slice (htt _ _ hs) hk]
                  have hu2 : ∀ w, (Go.underlying dst).run P w = .ok .string w := fun w => by simp [Go.underlying, kind_string (htt _ _ hd) hk']
                  have hu3 : ∀ w, (Go.underlying e).run P w = .ok (.int .u8) w := fun w => by simp [Go.underlying, kind_int (htt _ _ hte) hke]
                  refine wp_value (x := .string (bytesOf l)) (w' := w) ?_ (hnext _ w ρ T (Done.pure ⟨rfl, ?_⟩))
                  · simp only [execOp, ho, h3, Go.convert, Sem.run_bind, hu1, hu2, hu3, Result.andThen_ok, Conv.bytesToString, hload, hm]
                    simp [bytesOf, ByteArray.empty, ByteArray.emptyWithCapacity, push_all]; try rfl
                  · have : (bytesOf l).size = l.length := by simp [bytesOf, ByteArray.size]
                    rw [this, hlen]; exact of_decide_eq_true hsz
            · exact h.elim
          · exact h.elim
        · exact h.elim
      · exact h.elim
    · exact h.elim
  · exact h.elim

omit htt in
theorem bound_ok {ρ : Names} {T : Nat → Prop} {w : World} {a : Act} {x : Option Operand} {d : Nat} {n : Int} (h : boundE (x.map (eval st.tmps)) d = some n)
    (hr : ∀ y, x = some y → rel ρ T w (eval st.tmps y) (a.eval y)) : (x = none ∧ n = d) ∨ ∃ y k, x = some y ∧ a.eval y = .int k n := by
  cases x with
  | none => simp only [Option.map_none, boundE, Option.some.injEq] at h; exact .inl ⟨rfl, h.symm⟩
  | some y =>
    simp only [Option.map_some] at h
    unfold boundE at h
    split at h
    · rename_i hn; cases hn
    · rename_i k m hm
      cases h
      rw [Option.some.injEq] at hm
      have := hr y rfl
      rw [hm] at this
      exact .inr ⟨y, k, rfl, this.1⟩
    · cases h

omit htt in
theorem run_bounds {w : World} {a : Act} {lo hi : Option Operand} {len cap : Nat} {l h : Int} (b : Bool) (hl : (lo = none ∧ l = (0 : Nat)) ∨ ∃ y k, lo = some y ∧ a.eval y = .int k l)
    (hh : (hi = none ∧ h = len) ∨ ∃ y k, hi = some y ∧ a.eval y = .int k h) (h0 : 0 ≤ l) (h1 : l ≤ h) (h2 : h ≤ cap) :
    (Instr.sliceBounds b len cap (lo.map a.eval) (hi.map a.eval) none).run P w = .ok (l.toNat, h.toNat, cap) w := by
  have hB : ∀ (v : Value) (k : IntKind) (n : Int) (y : Nat) (c : BoundsCode), v = .int k n → 0 ≤ n → n ≤ y → (Instr.sliceBound v y c).run P w = .ok n.toNat w := fun v k n y c hv hn hy => by
    simp [Instr.sliceBound, hv, asIntOf, hn, hy]
  unfold Instr.sliceBounds
  rcases hh with ⟨rfl, rfl⟩ | ⟨y, k, rfl, hy⟩ <;> rcases hl with ⟨rfl, rfl⟩ | ⟨z, j, rfl, hz⟩ <;> simp only [Option.map_none, Option.map_some, Sem.run_bind, Sem.run_pure, Result.andThen_ok]
  · simp
  · rw [hB _ j l _ _ hz h0 (by omega)]
    simp
  · rw [hB _ k h _ _ hy (by omega) (by omega)]
    simp
  · rw [hB _ k h _ _ hy (by omega) (by omega)]
    simp only [Result.andThen_ok]
    rw [hB _ j l _ _ hz h0 (by omega)]
    simp

omit htt in
theorem relL_noLen {s : ByteArray} {l h : Nat} (hs : s.size < 9223372036854775808) : (s.extract l h).size < 9223372036854775808 := by
  rw [ByteArray.size_extract]; omega

theorem good_slice {t : TypeId} {x : Operand} {lo hi : Option Operand} (ho : o.op = .slice t x lo hi none)
    (h : sliceE env t (eval st.tmps x) (lo.map (eval st.tmps)) (hi.map (eval st.tmps)) fun v => K v [] st.nxt [] []) : Good P st o K := by
  have hops : ∀ (ρ : Names) (T : Nat → Prop) (a : Act) (w : World), (∀ x, x ∈ o.op.operands → rel ρ T w (eval st.tmps x) (a.eval x)) →
      rel ρ T w (eval st.tmps x) (a.eval x) ∧ (∀ y, lo = some y → rel ρ T w (eval st.tmps y) (a.eval y)) ∧ (∀ y, hi = some y → rel ρ T w (eval st.tmps y) (a.eval y)) := fun ρ T a w hr =>
    ⟨hr x (by simp [ho, Op.operands]), fun y hy => hr y (by simp [ho, Op.operands, hy]), fun y hy => hr y (by simp [ho, Op.operands, hy])⟩
  unfold sliceE at h
  split at h
  · exact h.elim
  · rename_i ti ht
    split at h
    · rename_i s hk hx
      split at h
      · rename_i l hh hl hhi
        obtain ⟨hb, h⟩ := If.elim h
        simp only [Bool.and_eq_true, decide_eq_true_eq] at hb
        refine Good.pure h (OpOK.pure fun ρ T a w hr => ?_)
        obtain ⟨r1, r2, r3⟩ := hops ρ T a w hr
        rw [hx] at r1
        have hu : ∀ w, (Go.underlying t).run P w = .ok .string w := fun w => by simp [Go.underlying, kind_string (htt _ _ ht) hk]
        have hbd := run_bounds (P := P) (w := w) (len := s.size) (cap := s.size) false (bound_ok hl r2) (bound_ok hhi r3) hb.1 hb.2.1 hb.2.2
        refine ⟨.string (s.extract l.toNat hh.toNat), ?_, rfl, relL_noLen r1.2⟩
        simp [execOp, ho, r1.1, Instr.sliceAt, Instr.slice, hu, hbd]
      · exact h.elim
    · rename_i e id off len cap hk hx
      split at h
      · rename_i te hte
        split at h
        · rename_i l hh hl hhi
          obtain ⟨hb, h⟩ := If.elim h
          simp only [Bool.and_eq_true, decide_eq_true_eq] at hb
          refine Good.pure h (OpOK.pure fun ρ T a w hr => ?_)
          obtain ⟨r1, r2, r3⟩ := hops ρ T a w hr
          rw [hx] at r1
          obtain ⟨⟨b, h3, h4⟩, h5⟩ := r1
          have hu : ∀ w, (Go.underlying t).run P w = .ok (.slice e) w := fun w => by simp [Go.underlying, kind_slice (htt _ _ ht) hk]
          have hbd := run_bounds (P := P) (w := w) (len := len) (cap := cap) true (bound_ok hl r2) (bound_ok hhi r3) hb.1.1 hb.1.2.1 hb.1.2.2
          refine ⟨.slice (some ⟨b, bif Nat.beq cap l.toNat then off else off + l.toNat * te.size, none⟩) (hh.toNat - l.toNat) (cap - l.toNat), ?_, ⟨b, h3, rfl⟩, by omega⟩
          simp only [execOp, ho, h4, Instr.sliceAt, Instr.slice, Option.map_none, Sem.run_bind, hu, Result.andThen_ok, hbd, (htt _ _ hte).sizeOf, Sem.run_pure]
          by_cases hc : cap = l.toNat
          · rw [if_pos hc, show Nat.beq cap l.toNat = true by rw [hc]; exact Nat.beq_refl _]; rfl
          · rw [if_neg hc, show Nat.beq cap l.toNat = false by rw [Bool.eq_false_iff]; exact fun e => hc (Nat.eq_of_beq_eq_true e)]
            simp [add_off]
        · exact h.elim
      · exact h.elim
    · rename_i e len s g hk hx
      split at h
      · rename_i te hte
        split at h
        · rename_i l hh hl hhi
          split at h
          · rename_i hs
            obtain ⟨hb, h⟩ := If.elim h
            simp only [Bool.and_eq_true, decide_eq_true_eq] at hb
            have hs' := Nat.eq_of_beq_eq_true hs
            refine Good.pure h (OpOK.pure fun ρ T a w hr => ?_)
            obtain ⟨r1, r2, r3⟩ := hops ρ T a w hr
            rw [hx] at r1
            obtain ⟨ad, c, h3, h4, h5⟩ := r1
            obtain ⟨hb1, hb2, hb3⟩ := hb
            obtain ⟨h41, h42⟩ := h4
            have ha : ∀ i, i < hh.toNat - l.toNat → i + l.toNat < len := fun i hi => by clear h5; omega
            have hc : 0 < hh.toNat - l.toNat → ¬ c = l.toNat := fun hlt => by clear h5; omega
            have hd1 : hh.toNat - l.toNat ≤ c - l.toNat ∧ hh.toNat - l.toNat < 9223372036854775808 := by clear h5; omega
            have hu : ∀ w, (Go.underlying t).run P w = .ok (.slice e) w := fun w => by simp [Go.underlying, kind_slice (htt _ _ ht) hk]
            have hbd := run_bounds (P := P) (w := w) (len := len) (cap := c) true (bound_ok hl r2) (bound_ok hhi r3) hb1 hb2 (by omega)
            refine ⟨.slice (if c = l.toNat then ad else ad.map (·.add (l.toNat * te.size))) (hh.toNat - l.toNat) (c - l.toNat), ?_, _, _, rfl, ⟨hd1.1, hd1.2, fun he => ?_⟩, fun hlt => ?_⟩
            · simp only [execOp, ho, h3, Instr.sliceAt, Instr.slice, Option.map_none, Sem.run_bind, hu, Result.andThen_ok, hbd, (htt _ _ hte).sizeOf, Sem.run_pure]
            · split at he
              · clear h5; omega
              · cases ad with
                | none => rw [h42.2 rfl]; exact Nat.zero_sub _
                | some a => cases he
            · obtain ⟨b, off, rfl, h6, h7, h8⟩ := h5 (by have := ha 0 hlt; omega)
              refine ⟨b, off + l.toNat * te.size, ?_, h6, h7, fun i hi => ?_⟩
              · rw [if_neg (hc hlt)]; simp [add_off]
              · have := h8 (i + l.toNat) (ha i hi)
                rw [show off + (i + l.toNat) * s = off + l.toNat * te.size + i * s by rw [← hs', Nat.add_mul, Nat.add_comm (i * s), Nat.add_assoc]] at this
                exact this
          · exact h.elim
        · exact h.elim
      · exact h.elim
    · rename_i e id off sz len hk hx
      split at h
      · rename_i te hte
        split at h
        · rename_i l hh hl hhi
          split at h
          · rename_i hs
            obtain ⟨hb, h⟩ := If.elim h
            simp only [Bool.and_eq_true, decide_eq_true_eq] at hb
            have hs' := Nat.eq_of_beq_eq_true hs
            have hu : ∀ w, (Go.underlying t).run P w = .ok (.slice e) w := fun w => by simp [Go.underlying, kind_slice (htt _ _ ht) hk]
            obtain ⟨⟨hb1, hb2, hb3⟩, hb4⟩ := hb
            have hrun : ∀ (ρ : Names) (T : Nat → Prop) (a : Act) (w : World), (∀ x, x ∈ o.op.operands → rel ρ T w (eval st.tmps x) (a.eval x)) → ∃ b c, ρ id = some b ∧ len ≤ c ∧ c < 9223372036854775808 ∧ (∃ vs e f, w.heap[b]? = some (.cells vs e f) ∧ off * sz + c * sz ≤ vs.size) ∧
                (execOp a.eval o).run P w = .ok (.value (.slice (if c = l.toNat then some ⟨b, off * sz, none⟩ else some ⟨b, off * sz + l.toNat * te.size, none⟩) (hh.toNat - l.toNat) (c - l.toNat))) w := fun ρ T a w hr => by
              obtain ⟨r1, r2, r3⟩ := hops ρ T a w hr
              rw [hx] at r1
              obtain ⟨b, c, h3, h4, h5, h6, h7⟩ := r1
              have hbd := run_bounds (P := P) (w := w) (len := len) (cap := c) true (bound_ok hl r2) (bound_ok hhi r3) hb1 hb2 (by clear h7; omega)
              refine ⟨b, c, h3, h5, h6, h7, ?_⟩
              simp only [execOp, ho, h4, Instr.sliceAt, Instr.slice, Option.map_none, Sem.run_bind, hu, Result.andThen_ok, hbd, (htt _ _ hte).sizeOf, Sem.run_pure]
              by_cases hc : c = l.toNat
              · rw [if_pos hc, if_pos hc]
              · rw [if_neg hc, if_neg hc]; simp [add_off]
            split at h
            · rename_i hlt
              have hlt := of_decide_eq_true hlt
              refine Good.pure h (OpOK.pure fun ρ T a w hr => ?_)
              obtain ⟨b, c, h3, h5, h6, ⟨vs, e1, f1, h7, h8⟩, h9⟩ := hrun ρ T a w hr
              refine ⟨_, h9, b, c - l.toNat, h3, ?_, by clear h9; omega, by clear h9; omega, vs, e1, f1, h7, ?_⟩
              · rw [if_neg (by clear h9; omega), Nat.add_mul, hs']
              · have : l.toNat * sz + (c - l.toNat) * sz = c * sz := by rw [← Nat.add_mul]; congr 1; clear h9; omega
                rw [Nat.add_mul]; clear h9; omega
            · rename_i hlt
              have hlt := of_decide_eq_false hlt
              refine Good.pure h (OpOK.pure fun ρ T a w hr => ?_)
              obtain ⟨b, c, h3, h5, h6, _, h9⟩ := hrun ρ T a w hr
              have hz : hh.toNat - l.toNat = 0 := by clear h9; omega
              rw [hz] at h9
              exact ⟨_, h9, _, _, rfl, ⟨Nat.zero_le _, by decide, fun he => by split at he <;> cases he⟩, fun h0 => absurd h0 (Nat.lt_irrefl 0)⟩
          · exact h.elim
        · exact h.elim
      · exact h.elim
    · rename_i n e id off hk hx
      split at h
      · rename_i te hte
        split at h
        · rename_i l hh hl hhi
          obtain ⟨hb, h⟩ := If.elim h
          simp only [Bool.and_eq_true, decide_eq_true_eq] at hb
          refine Good.pure h (OpOK.pure fun ρ T a w hr => ?_)
          obtain ⟨r1, r2, r3⟩ := hops ρ T a w hr
          rw [hx] at r1
          obtain ⟨b, h3, h4⟩ := r1
          have hu : ∀ w, (Go.underlying t).run P w = .ok (.array n e) w := fun w => by simp [Go.underlying, kind_array (htt _ _ ht) hk]
          have hbd := run_bounds (P := P) (w := w) (len := n) (cap := n) false (bound_ok hl r2) (bound_ok hhi r3) hb.1.1 hb.1.2.1 hb.1.2.2
          refine ⟨.slice (some ⟨b, bif Nat.beq n l.toNat then off else off + l.toNat * te.size, none⟩) (hh.toNat - l.toNat) (n - l.toNat), ?_, ⟨b, h3, rfl⟩, by omega⟩
          simp only [execOp, ho, h4, Instr.sliceAt, Option.map_none, Sem.run_bind, hu, Result.andThen_ok, Instr.sureAddr, hbd, (htt _ _ hte).sizeOf, Sem.run_pure]
          by_cases hc : n = l.toNat
          · rw [if_pos hc, show Nat.beq n l.toNat = true by rw [hc]; exact Nat.beq_refl _]; rfl
          · rw [if_neg hc, show Nat.beq n l.toNat = false by rw [Bool.eq_false_iff]; exact fun e => hc (Nat.eq_of_beq_eq_true e)]
            simp [add_off]
        · exact h.elim
      · exact h.elim
    · exact h.elim
omit htt in
theorem run_bounds3 {w : World} {a : Act} {lo : Option Operand} {hi mx : Operand} {len cap : Nat} {l h m : Int} {k k' : IntKind} (b : Bool) (hl : (lo = none ∧ l = (0 : Nat)) ∨ ∃ y k, lo = some y ∧ a.eval y = .int k l)
    (hh : a.eval hi = .int k h) (hm : a.eval mx = .int k' m) (h0 : 0 ≤ l) (h1 : l ≤ h) (h2 : h ≤ m) (h3 : m ≤ cap) :
    (Instr.sliceBounds b len cap (lo.map a.eval) (some (a.eval hi)) (some (a.eval mx))).run P w = .ok (l.toNat, h.toNat, m.toNat) w := by
  have hB : ∀ (v : Value) (k : IntKind) (n : Int) (y : Nat) (c : BoundsCode), v = .int k n → 0 ≤ n → n ≤ y → (Instr.sliceBound v y c).run P w = .ok n.toNat w := fun v k n y c hv hn hy => by
    simp [Instr.sliceBound, hv, asIntOf, hn, hy]
  unfold Instr.sliceBounds
  rcases hl with ⟨rfl, rfl⟩ | ⟨z, j, rfl, hz⟩ <;> simp only [Option.map_none, Option.map_some, Sem.run_bind, Sem.run_pure]
  · rw [hB _ k' m _ _ hm (by omega) (by omega)]
    simp only [Result.andThen_ok]
    rw [hB _ k h _ _ hh (by omega) (by omega)]
    simp
  · rw [hB _ k' m _ _ hm (by omega) (by omega)]
    simp only [Result.andThen_ok]
    rw [hB _ k h _ _ hh (by omega) (by omega)]
    simp only [Result.andThen_ok]
    rw [hB _ j l _ _ hz h0 (by omega)]
    simp

theorem good_slice3 {t : TypeId} {x mx : Operand} {lo hi : Option Operand} (ho : o.op = .slice t x lo hi (some mx))
    (h : slice3E env t (eval st.tmps x) (lo.map (eval st.tmps)) (hi.map (eval st.tmps)) (eval st.tmps mx) fun v => K v [] st.nxt [] []) : Good P st o K := by
  unfold slice3E at h
  split at h
  · exact h.elim
  rename_i ti ht
  split at h
  case h_2 => exact h.elim
  rename_i e len s g hk hx
  split at h
  case h_2 => exact h.elim
  rename_i te hte
  split at h
  case h_2 => exact h.elim
  rename_i l k hh k' m hl hhi hmx
  split at h
  case h_2 => exact h.elim
  rename_i hs
  obtain ⟨hb, h⟩ := If.elim h
  simp only [Bool.and_eq_true, decide_eq_true_eq] at hb
  have hs' := Nat.eq_of_beq_eq_true hs
  obtain ⟨hiop, rfl, hhi2⟩ : ∃ y, hi = some y ∧ eval st.tmps y = .int k hh := by
    cases hi with
    | none => cases hhi
    | some y => simp only [Option.map_some, Option.some.injEq] at hhi; exact ⟨y, rfl, hhi⟩
  refine Good.pure h (OpOK.pure fun ρ T a w hr => ?_)
  have r1 := hr x (by simp [ho, Op.operands])
  have r2 : ∀ y, lo = some y → rel ρ T w (eval st.tmps y) (a.eval y) := fun y hy => hr y (by simp [ho, Op.operands, hy])
  have r3 := hr hiop (by simp [ho, Op.operands])
  have r4 := hr mx (by simp [ho, Op.operands])
  rw [hx] at r1
  rw [hhi2] at r3
  rw [hmx] at r4
  obtain ⟨ad, c, h3, h4, h5⟩ := r1
  obtain ⟨hb1, hb2, hb3, hb4⟩ := hb
  obtain ⟨h41, h42⟩ := h4
  have ha : ∀ i, i < hh.toNat - l.toNat → i + l.toNat < len := fun i hi => by clear h5; omega
  have hc : 0 < hh.toNat - l.toNat → ¬ m.toNat = l.toNat := fun hlt => by clear h5; omega
  have hd1 : hh.toNat - l.toNat ≤ m.toNat - l.toNat ∧ hh.toNat - l.toNat < 9223372036854775808 := by clear h5; omega
  have hu : ∀ w, (Go.underlying t).run P w = .ok (.slice e) w := fun w => by simp [Go.underlying, kind_slice (htt _ _ ht) hk]
  have hbd := run_bounds3 (P := P) (w := w) (len := len) (cap := c) true (bound_ok hl r2) r3.1 r4.1 hb1 hb2 hb3 (by clear h5; omega)
  refine ⟨.slice (if m.toNat = l.toNat then ad else ad.map (·.add (l.toNat * te.size))) (hh.toNat - l.toNat) (m.toNat - l.toNat), ?_, _, _, rfl, ⟨hd1.1, hd1.2, fun he => ?_⟩, fun hlt => ?_⟩
  · simp only [execOp, ho, h3, Instr.sliceAt, Instr.slice, Option.map_some, Sem.run_bind, hu, Result.andThen_ok, hbd, (htt _ _ hte).sizeOf, Sem.run_pure]
  · split at he
    · clear h5; omega
    · cases ad with
      | none => have := h42.2 rfl; clear h5; omega
      | some a => cases he
  · obtain ⟨b, off, rfl, h6, h7, h8⟩ := h5 (by have := ha 0 hlt; omega)
    refine ⟨b, off + l.toNat * te.size, ?_, h6, h7, fun i hi => ?_⟩
    · rw [if_neg (hc hlt)]; simp [add_off]
    · have := h8 (i + l.toNat) (ha i hi)
      rw [show off + (i + l.toNat) * s = off + l.toNat * te.size + i * s by rw [← hs', Nat.add_mul, Nat.add_comm (i * s), Nat.add_assoc]] at this
      exact this

omit htt in
theorem relAt_append {T : Nat → Prop} {w : World} {b : Nat} : ∀ (l m : List SV) (o : Nat), relAt T w l b o → relAt T w m b (o + l.length) → relAt T w (l ++ m) b o
  | [], m, o, _, h => by simpa using h
  | a :: l, m, o, ⟨h1, h2⟩, h => ⟨h1, relAt_append l m (o + 1) h2 (by rw [List.length_cons] at h; rw [show o + 1 + l.length = o + (l.length + 1) by omega]; exact h)⟩

omit htt in
theorem flatR_ok {T : Nat → Prop} {w : World} {b off sz : Nat} {g : Nat → List SV} : ∀ (n : Nat), allLen g sz n = true → (∀ i, i < n → relAt T w (g i) b (off + i * sz)) → (flatR g n).length = n * sz ∧ relAt T w (flatR g n) b off
  | 0, _, _ => ⟨by simp [flatR], trivial⟩
  | n + 1, hl, h => by
    simp only [allLen, Bool.and_eq_true] at hl
    have hgl := Nat.eq_of_beq_eq_true hl.1
    obtain ⟨h1, h2⟩ := flatR_ok n hl.2 fun i hi => h i (by omega)
    refine ⟨by simp only [flatR, List.length_append, h1, hgl, Nat.add_mul, Nat.one_mul], ?_⟩
    simp only [flatR]
    exact relAt_append _ _ _ h2 (by rw [h1]; exact h n (by omega))

theorem good_arrayAt {t : TypeId} {x : Operand} (ho : o.op = .sliceToArrayPointer t x) (h : arrayAtE env t (eval st.tmps x) fun v => K v [] st.nxt [] []) : Good P st o K := by
  unfold arrayAtE at h
  split at h
  case h_2 => exact h.elim
  rename_i ti len s g ht hx
  split at h
  case h_2 => exact h.elim
  rename_i n e hk
  cases hc : Nat.blt 0 n && allLen g s n with
  | false => rw [hc] at h; exact h.elim
  | true =>
  rw [hc] at h
  simp only [Bool.and_eq_true, cond_true] at hc h
  have hn : 0 < n := by simpa using hc.1
  obtain ⟨hb, h⟩ := If.elim h
  have hb := of_decide_eq_true hb
  refine Good.pure h (OpOK.pure fun ρ T a w hr => ?_)
  have r1 := hr x (by simp [ho, Op.operands])
  rw [hx] at r1
  obtain ⟨ad, cp, h3, h4, h5⟩ := r1
  obtain ⟨b, off, rfl, h6, h7, h8⟩ := h5 (by omega)
  have hu : ∀ w, (Go.underlying t).run P w = .ok (.array n e) w := fun w => by simp [Go.underlying, kind_array (htt _ _ ht) hk]
  refine ⟨.pointer (some ⟨b, off, none⟩), ?_, b, off, rfl, h6, h7, (flatR_ok n hc.2 fun i hi => h8 i (by omega)).2⟩
  simp [execOp, ho, h3, Instr.arrayAt, hu, Nat.not_lt.2 hb]

omit htt in
theorem made_zero {z : Array Value} {sz n i : Nat} (hz : z.size = sz) (_hp : 0 < sz) (hi : i < n) : ((madeCells z (n * sz)).toList.drop (i * sz)).take sz = z.toList := by
  have hlt : (i + 1) * sz ≤ n * sz := Nat.mul_le_mul_right _ hi
  rw [Nat.add_mul, Nat.one_mul] at hlt
  apply List.ext_getElem?
  intro k
  rw [List.getElem?_take, List.getElem?_drop]
  by_cases hk : k < sz
  · rw [if_pos hk, Array.getElem?_toList, Array.getElem?_toList]
    unfold madeCells
    rw [Array.getElem?_map, Array.getElem?_range]
    rw [if_pos (by omega)]
    simp only [Option.map_some]
    rw [hz, Nat.mul_comm i sz, Nat.mul_add_mod, Nat.mod_eq_of_lt hk, getElem!_pos z k (by omega), Array.getElem?_eq_getElem (by omega)]
  · rw [if_neg hk, List.getElem?_eq_none (by rw [Array.length_toList]; omega)]

theorem good_makeSlice {t : TypeId} {x y : Operand} (ho : o.op = .makeSlice t x y) (h : makeSliceE env t (eval st.tmps x) (eval st.tmps y) st K) : Good P st o K := by
  unfold makeSliceE at h
  split at h
  case h_2 => exact h.elim
  rename_i ti k a k' b ht hx hy
  split at h
  case h_2 => exact h.elim
  rename_i e hk
  split at h
  case h_2 => exact h.elim
  rename_i te hte
  cases hz0 : Nat.beq te.zero.length te.size && Nat.blt 0 te.size with
  | false => rw [hz0] at h; exact h.elim
  | true =>
  rw [hz0] at h
  simp only [Bool.and_eq_true, cond_true] at hz0 h
  have hzl := Nat.eq_of_beq_eq_true hz0.1
  have hpos : 0 < te.size := Nat.le_of_ble_eq_true hz0.2
  obtain ⟨hb, hK⟩ := If.elim h
  clear h
  simp only [Bool.and_eq_true, decide_eq_true_eq] at hb
  obtain ⟨h0, hab, hbytes, h63⟩ := hb
  have hT := kind_slice (htt _ _ ht) hk
  obtain ⟨⟨inf, hinf, hsz, hby, z, hz, hzc⟩, _, _⟩ := htt _ _ hte
  have hzs : z.cells.size = te.size := by
    have := relL_len (zeroCells_rel (fun _ => none) (fun _ => False) default z.cells.toList te.zero hzc)
    rw [← hzl, this]; simp
  obtain ⟨n, rfl⟩ : ∃ n : Nat, a = (n : Int) := ⟨a.toNat, by omega⟩
  obtain ⟨m, rfl⟩ : ∃ m : Nat, b = (m : Int) := ⟨b.toNat, by omega⟩
  rw [Int.toNat_natCast] at hK
  refine ⟨_, _, _, _, _, hK, Nat.le_succ _, by simp, Once.one, fun i o' hi => ?_, fun ρ T ac w next Q hr _ _ hρ hn hnext => ?_⟩
  · simp only [List.mem_singleton, Prod.mk.injEq] at hi
    right; omega
  · have r1 := hr x (by simp [ho, Op.operands])
    have r2 := hr y (by simp [ho, Op.operands])
    rw [hx] at r1
    rw [hy] at r2
    have hrun0 := run_make (P := P) w t e inf z hT hinf hz k k' n m (by omega) hab (by rw [hby, Int.mul_comm]; omega) (by omega)
    have hmul : n * te.size ≤ m * te.size := Nat.mul_le_mul_right _ (by omega)
    have hrun : (execOp ac.eval o).run P w = .ok (.value (.slice (some ⟨w.heap.size, 0, none⟩) n m)) (w.alloc (.cells (madeCells z.cells (m * te.size)) e)) := by
      simp only [execOp, ho, r1.1, r2.1]
      simp only [Int.toNat_natCast, hsz] at hrun0
      simp only [Sem.run_bind, hrun0, Result.andThen_ok]
      rfl
    refine wp_value hrun (hnext _ _ _ _ (Done.newB (b := w.heap.size) (hn st.nxt (Nat.le_refl _) (by omega)) (Grow.alloc _ w _) (Nat.le_refl _) (by rw [World.size_alloc]; omega) ?_ ?_))
    · refine ⟨_, alloc_at w _, by rw [size_madeCells]; exact hmul, fun i hi => ?_⟩
      rw [made_zero hzs hpos (show i < m by omega)]
      exact zeroCells_rel _ _ _ _ _ hzc
    · exact ⟨w.heap.size, m, by simp [named], by rw [Nat.zero_mul], by omega, by omega, _, _, _, alloc_at w _, by rw [size_madeCells]; omega⟩

omit htt in
theorem toText_ok {src dst : TypeId} (h : toText env src dst = true) (htt : ∀ t ti, env.tt t = some ti → TIok P t ti) : ∃ e, P.underlying src = some (.slice e) ∧ P.underlying dst = some .string ∧ P.underlying e = some (.int .u8) := by
  unfold toText at h
  split at h
  · rename_i ts td hs hd
    split at h
    · rename_i e hk hk'
      split at h
      · rename_i te hte
        split at h
        · rename_i hke
          exact ⟨e, kind_slice (htt _ _ hs) hk, kind_string (htt _ _ hd) hk', kind_int (htt _ _ hte) hke⟩
        · cases h
      · cases h
    · cases h
  · cases h

omit htt in
theorem rowB_len (n : Nat) (g : Nat → List SV) : (rowB n g).length = n := by simp [rowB]

omit htt in
theorem run_text {src dst e : TypeId} {w : World} {a : Act} {x : Operand} {ad : Option Addr} {len c : Nat} {news : List Value} {l : List Int} (ho : o.op = .convert src dst x) (h1 : P.underlying src = some (.slice e)) (h2 : P.underlying dst = some .string) (h3 : P.underlying e = some (.int .u8))
    (hx : a.eval x = .slice ad len c) (hl : l.length = len) (hnews : news = l.map fun n => Value.int .u8 n) (hcells : len = 0 ∨ ∃ b off, ad = some ⟨b, off, none⟩ ∧ ∀ j u, news[j]? = some u → w.cell? ⟨b, off + j, none⟩ = some u) :
    (execOp a.eval o).run P w = .ok (.value (.string (bytesOf l))) w := by
  have hu1 : ∀ w, (Go.underlying src).run P w = .ok (.slice e) w := fun w => by simp [Go.underlying, h1]
  have hu2 : ∀ w, (Go.underlying dst).run P w = .ok .string w := fun w => by simp [Go.underlying, h2]
  have hu3 : ∀ w, (Go.underlying e).run P w = .ok (.int .u8) w := fun w => by simp [Go.underlying, h3]
  cases ad with
  | none =>
    have h0 : len = 0 := by
      rcases hcells with h | ⟨_, _, h, _⟩
      · exact h
      · cases h
    subst h0
    obtain rfl : l = [] := List.eq_nil_of_length_eq_zero hl
    simp only [execOp, ho, hx, Go.convert, Sem.run_bind, hu1, hu2, hu3, Result.andThen_ok, Conv.bytesToString]
    simp [bytesOf, ByteArray.empty, ByteArray.emptyWithCapacity]; try rfl
  | some ad =>
    have hload : (loadCells ad len).run P w = .ok (l.map fun n => Value.int .u8 n).toArray w := by
      rcases hcells with rfl | ⟨b, off, h, h'⟩
      · obtain rfl : l = [] := List.eq_nil_of_length_eq_zero hl
        simp [loadCells, loadCellsFrom]
      · cases h
        have := run_loadCells_list (P := P) w ⟨b, off, none⟩ news (fun j v hj => by rw [add_off]; exact h' j v hj)
        rw [hnews, List.length_map, hl] at this
        exact this
    simp only [execOp, ho, hx, Go.convert, Sem.run_bind, hu1, hu2, hu3, Result.andThen_ok, Conv.bytesToString, hload]
    simp [bytesOf, ByteArray.empty, ByteArray.emptyWithCapacity, push_all]; try rfl


theorem good_bytesR {src dst : TypeId} {x : Operand} {len sz : Nat} {g : Nat → List SV} (ho : o.op = .convert src dst x)
    (hx : eval st.tmps x = .ro len sz g ∨ (eval st.tmps x = .nils ∧ len = 0)) (h : bytesRE env src dst len sz g st K) : Good P st o K := by
  unfold bytesRE at h
  cases hc : toText env src dst && Nat.beq sz 1 with
  | false => rw [hc] at h; exact h.elim
  | true =>
  rw [hc] at h
  simp only [Bool.and_eq_true, cond_true] at hc h
  obtain ⟨e, k1, k2, k3⟩ := toText_ok hc.1 htt
  have hs := Nat.eq_of_beq_eq_true hc.2
  obtain ⟨hb, h⟩ := h
  obtain ⟨hlt, h⟩ := If.elim h
  refine Good.pure h (OpOK.pure fun ρ T a w hr => ?_)
  have r1 := hr x (by simp [ho, Op.operands])
  have hsz : (bytesOf (rowB len g)).size < 9223372036854775808 := by
    have : (bytesOf (rowB len g)).size = (rowB len g).length := by simp [bytesOf, ByteArray.size]
    rw [this, rowB_len]; exact of_decide_eq_true hlt
  rcases hx with hx | ⟨hx, rfl⟩
  · rw [hx] at r1
    obtain ⟨ad, c, h3, h4, h5⟩ := r1
    refine ⟨_, run_text (w := w) ho k1 k2 k3 h3 (rowB_len len g) rfl ?_, rfl, hsz⟩
    rcases Nat.eq_zero_or_pos len with h0 | h0
    · exact .inl h0
    · right
      obtain ⟨b, off, rfl, h6, h7, h8⟩ := h5 h0
      obtain ⟨news, h9, h10⟩ := row_bytes len hb (fun i hi => by rw [← hs]; exact h8 i hi)
      exact ⟨b, off, rfl, by rw [← h9]; exact h10⟩
  · rw [hx] at r1
    exact ⟨_, run_text (w := w) ho k1 k2 k3 (show a.eval x = .slice none 0 0 from r1) (rowB_len 0 g) rfl (.inl rfl), rfl, hsz⟩

theorem good_bytesO {src dst : TypeId} {x : Operand} {id len sz : Nat} (ho : o.op = .convert src dst x)
    (hx : eval st.tmps x = .own id 0 sz len) (h : bytesOE env src dst id sz len st K) : Good P st o K := by
  unfold bytesOE at h
  cases hc : toText env src dst && Nat.beq sz 1 with
  | false => rw [hc] at h; exact h.elim
  | true =>
  rw [hc] at h
  simp only [Bool.and_eq_true, cond_true] at hc h
  obtain ⟨e, k1, k2, k3⟩ := toText_ok hc.1 htt
  have hs := Nat.eq_of_beq_eq_true hc.2
  split at h
  case h_2 => exact h.elim
  rename_i e1 sz' len' g hl
  cases hc2 : Nat.beq sz' 1 with
  | false => rw [hc2] at h; exact h.elim
  | true =>
  rw [hc2] at h
  have hs2 := Nat.eq_of_beq_eq_true hc2
  obtain ⟨hb, h⟩ := (show _ ∧ If _ _ from h)
  obtain ⟨hlt, h⟩ := If.elim h
  simp only [Bool.and_eq_true, decide_eq_true_eq] at hlt
  refine ⟨_, [], st.nxt, [id], [], h, Nat.le_refl _, ?_, Once.nil, by simp, fun ρ T a w next Q hr hb' _ _ _ hnext => ?_⟩
  · intro i hi
    simp only [List.mem_singleton, List.not_mem_nil, or_false] at hi
    subst hi; exact ⟨_, hl⟩
  · have r1 := hr x (by simp [ho, Op.operands])
    rw [hx] at r1
    obtain ⟨b, c, j1, j2, j3, j4, vs0, e0, f0, j5, j6⟩ := r1
    obtain ⟨sb, b', h4, h5, _, h6⟩ := hb' id (.inl (by simp))
    rw [hl] at h4; cases h4
    rw [j1] at h5; cases h5
    obtain ⟨vs, l1, l2, l3⟩ := h6
    have hat : ∀ i, i < len → relAt T w (g i) b (0 + i * 1) := fun i hi => relAt_cells (l3 i (by omega)) fun j c hj => by
      rw [cell_of l1]
      rw [List.getElem?_take] at hj
      split at hj
      · rw [List.getElem?_drop, Array.getElem?_toList, hs2] at hj
        rw [Nat.zero_add]; exact hj
      · cases hj
    obtain ⟨news, h9, h10⟩ := row_bytes len hb hat
    have hsz : (bytesOf (rowB len g)).size < 9223372036854775808 := by
      have : (bytesOf (rowB len g)).size = (rowB len g).length := by simp [bytesOf, ByteArray.size]
      rw [this, rowB_len]; exact hlt.1
    rw [Nat.zero_mul] at j2
    exact wp_value (run_text (w := w) ho k1 k2 k3 j2 (rowB_len len g) rfl (.inr ⟨b, 0, rfl, by rw [← h9]; exact h10⟩)) (hnext _ w ρ T (Done.pure ⟨rfl, hsz⟩))

end Go.Se

/- Walks over texts; pointers seen as unsafe.Pointer. -/
namespace Go.Se
variable {P : Program}

theorem Grow.turn {D : Nat} {w w' : World} (h : Put D w w') : Grow (fun b => b = D) w w' :=
  ⟨Nat.le_of_eq h.size.symm, fun b _ hb => h.same b hb, fun _ vs _ f hb => ⟨vs, f, h.cells hb, rfl⟩, h.os, h.output, h.tape⟩
theorem put_putObj {D : Nat} {w : World} {o o' : Obj} (h : w.heap[D]? = some o) (ho : ∀ vs e f, o ≠ .cells vs e f) : Put D w (w.putObj D o') where
  size := World.putObj_size
  same := fun b hb => World.putObj_heap_other hb
  old := fun vs e f e2 => by rw [h] at e2; cases e2; exact ho vs e f rfl
  os := rfl
  output := rfl
  tape := rfl
theorem liesAt_self {e : TypeId} (hc : P.cellsOf e ≠ 0) : liesAt P P.depth e (P.cellsOf e / P.cellsOf e) 0 e 1 = true := by
  have hd : P.depth = (2 * (P.types.size + Made.depth) + 1) + 1 := rfl
  rw [Nat.div_self (by omega), hd]
  simp only [liesAt, Bool.or_eq_true]
  left
  rw [hd]
  simp [Go.rowAt, hc, sameLayout]

section
variable {st : St} {o : Oper} {K : KV} {env : Env} (htt : ∀ t ti, env.tt t = some ti → TIok P t ti)

theorem kind_unsafe {t : TypeId} {ti : TI} (ht : TIok P t ti) (hk : ti.kind = .other) : P.underlying t = some .unsafePointer := by
  obtain ⟨_, ⟨d, hd, h⟩, _⟩ := ht
  rw [hk] at h
  cases d <;> simp only [kindOf, Option.some.injEq, reduceCtorEq] at h
  case struct gs =>
    cases hb : gs.toList.all (fun f => f.name != "_") with
    | true => rw [hb] at h; simp at h
    | false => rw [hb] at h; simp at h
  exact hd

include htt

theorem good_unsafe {src dst : TypeId} {x : Operand} {id off : Nat} (ho : o.op = .convert src dst x) (hx : eval st.tmps x = .ptr id off) (h : unsafeE env src dst id off st K) : Good P st o K := by
  unfold unsafeE at h
  split at h
  case h_2 => exact h.elim
  rename_i ts td e cs hs hd hl
  have main : K (.ptr id off) [] st.nxt [id] [] → (∀ (w : World) (b : Nat) (vs : Array Value), w.heap[b]? = some (.cells vs e (0, 0)) → vs.size = cs.length → (Go.convert src dst (.pointer (some ⟨b, off, none⟩))).run P w = .ok (.pointer (some ⟨b, off, none⟩)) w) → Good P st o K := by
    intro hK hrun
    refine ⟨_, [], st.nxt, [id], [], hK, Nat.le_refl _, ?_, Once.nil, by simp, fun ρ T a w next Q hr hb _ _ _ hnext => ?_⟩
    · intro i hi
      simp only [List.mem_singleton, List.not_mem_nil, or_false] at hi
      subst hi; exact ⟨_, hl⟩
    · have h1 := hr x (by simp [ho, Op.operands])
      rw [hx] at h1
      obtain ⟨b, j1, j2⟩ := h1
      obtain ⟨sb, b', k1, k2, _, k4⟩ := hb id (.inl (by simp))
      rw [hl] at k1; cases k1
      rw [j1] at k2; cases k2
      obtain ⟨vs, l1, l2⟩ := k4
      have hlen := relL_len l2
      refine wp_value (x := .pointer (some ⟨b, off, none⟩)) (w' := w) ?_ (hnext _ w ρ T (Done.pure ⟨b, j1, rfl⟩))
      have := hrun w b vs l1 (by rw [hlen]; simp)
      simp only [execOp, ho, j2, Sem.run_bind, this]
      rfl
  split at h
  · rename_i e' hk hk'
    split at h
    case h_2 => exact h.elim
    rename_i te hte
    cases hc : Nat.blt 0 te.size && Nat.blt off cs.length with
    | false => rw [hc] at h; exact h.elim
    | true =>
    rw [hc] at h
    simp only [Bool.and_eq_true] at hc
    have h1 : 0 < te.size := Nat.le_of_ble_eq_true hc.1
    have h2 : off < cs.length := Nat.le_of_ble_eq_true hc.2
    obtain ⟨⟨inf, hinf, hsz, _⟩, _, _⟩ := htt _ _ hte
    refine main h fun w b vs hb hv => ?_
    exact Lib.run_to_unsafe w ⟨b, off, none⟩ (kind_ptr (htt _ _ hs) hk) (kind_unsafe (htt _ _ hd) hk') hinf (by omega) (show w.shape? b = some (e, vs.size) by unfold World.shape?; rw [hb]) (show off < vs.size by omega)
  · rename_i e' hk hk'
    split at h
    case h_2 => exact h.elim
    rename_i te hte
    cases hc : Nat.beq e e' && (Nat.beq off 0 && (Nat.beq cs.length te.size && Nat.blt 0 te.size)) with
    | false => rw [hc] at h; exact h.elim
    | true =>
    rw [hc] at h
    simp only [Bool.and_eq_true] at hc
    obtain rfl := Nat.eq_of_beq_eq_true hc.1
    obtain rfl := Nat.eq_of_beq_eq_true hc.2.1
    have h3 := Nat.eq_of_beq_eq_true hc.2.2.1
    have h1 : 0 < te.size := Nat.le_of_ble_eq_true hc.2.2.2
    obtain ⟨⟨inf, hinf, hsz, _⟩, _, _⟩ := htt _ _ hte
    have hcells : P.cellsOf e = te.size := by unfold Program.cellsOf; rw [hinf]; exact hsz
    refine main h fun w b vs hb hv => ?_
    exact Lib.run_from_unsafe w ⟨b, 0, none⟩ (kind_unsafe (htt _ _ hs) hk) (kind_ptr (htt _ _ hd) hk') hinf (show w.shape? b = some (e, vs.size) by unfold World.shape?; rw [hb])
      (show liesAt P P.depth e (vs.size / P.cellsOf e) 0 e 1 = true by
        have := liesAt_self (P := P) (e := e) (by omega)
        rw [show vs.size = P.cellsOf e by omega]; exact this)
  · exact h.elim

theorem good_range {t : TypeId} {x : Operand} (ho : o.op = .range t x) (h : rangeE env t (eval st.tmps x) st K) : Good P st o K := by
  unfold rangeE at h
  split at h
  case h_2 => exact h.elim
  rename_i s hx
  cases hki : kindIs env.tt t isStringK with
  | false => rw [hki] at h; exact h.elim
  | true =>
  rw [hki] at h
  obtain ⟨ti, ht, hk⟩ := kindIs_elim hki
  have hkb : ti.kind = .string := by cases hkk : ti.kind <;> rw [hkk] at hk <;> first | rfl | cases hk
  refine ⟨_, _, _, _, _, h, Nat.le_succ _, by simp, Once.one, fun i o' hi => ?_, fun ρ T a w next Q hr _ _ _ hn hnext => ?_⟩
  · simp only [List.mem_singleton, Prod.mk.injEq] at hi
    right; omega
  · have h1 := hr x (by simp [ho, Op.operands])
    rw [hx] at h1
    have hrun : (execOp a.eval o).run P w = .ok (.value (.pointer (some ⟨w.heap.size, 0, none⟩))) (w.alloc (.stringIter s 0)) := by
      simp only [execOp, ho, h1.1, Sem.run_bind, run_range_string w t s (kind_string (htt _ _ ht) hkb)]
      rfl
    refine wp_value hrun (hnext _ _ _ _ (Done.newB (b := w.heap.size) (hn st.nxt (Nat.le_refl _) (by omega)) (Grow.alloc _ w _) (Nat.le_refl _) (by rw [World.size_alloc]; omega) ?_ ?_))
    · exact ⟨0, alloc_at w _, rfl, h1.2⟩
    · exact ⟨w.heap.size, by simp [named], rfl⟩

omit htt in
theorem good_next {x : Operand} (ho : o.op = .next x true) (h : nextE (eval st.tmps x) st K) : Good P st o K := by
  unfold nextE at h
  split at h
  case h_2 => exact h.elim
  rename_i id hx
  split at h
  case h_2 => exact h.elim
  rename_i s pos hl
  have rdl : ∀ i, i ∈ [id] ∨ i ∈ [id] → ∃ sb, look st.store i = some sb := by
    intro i hi
    simp only [List.mem_singleton, or_self] at hi
    subst hi; exact ⟨_, hl⟩
  rcases Br.elim h with ⟨hp, h⟩ | ⟨hp, h⟩
  · have hp := of_decide_eq_true hp
    refine ⟨_, _, _, _, _, h, Nat.le_refl _, rdl, Once.one, by simp, fun ρ T a w next Q hr hb _ _ _ hnext => ?_⟩
    have h1 := hr x (by simp [ho, Op.operands])
    rw [hx] at h1
    obtain ⟨b, j1, j2⟩ := h1
    obtain ⟨sb, b', k1, k2, hTb, k4⟩ := hb id (.inl (by simp))
    rw [hl] at k1; cases k1
    rw [j1] at k2; cases k2
    obtain ⟨q, l1, rfl, l3⟩ := k4
    have hput := put_putObj (o' := .stringIter s (q + (Utf8.decode s q).2)) l1 (fun _ _ _ e => by cases e)
    have hrun : (execOp a.eval o).run P w = .ok (.value (.tuple #[.bool true, .int .i64 q, .int .i32 (Utf8.decode s q).1])) (w.putObj b (.stringIter s (q + (Utf8.decode s q).2))) := by
      simp only [execOp, ho, j2, Instr.next, getObj, setObj, Sem.run_bind, Sem.run, l1, Result.andThen, hp, if_true]
      rfl
    refine wp_value hrun (hnext _ _ ρ T (Done.turnIn j1 hTb (Grow.turn hput) (fun sb hsb => ?_) ?_))
    · cases hsb
      refine ⟨_, ?_, rfl, l3⟩
      show (w.heap.setIfInBounds b _)[b]? = _
      rw [Array.getElem?_setIfInBounds_self_of_lt (Array.getElem?_eq_some_iff.1 l1).1]
    · refine ⟨_, rfl, _, _, rfl, rfl, _, _, rfl, ⟨rfl, ?_⟩, _, _, rfl, ⟨rfl, ?_⟩, rfl⟩
      · show (-9223372036854775808 : Int) ≤ _ ∧ _ ≤ (9223372036854775807 : Int); omega
      · have := decode_le s q
        show (-2147483648 : Int) ≤ _ ∧ _ ≤ (2147483647 : Int); omega
  · have hp := of_decide_eq_false hp
    refine ⟨_, [], st.nxt, [id], [], h, Nat.le_refl _, fun i hi => rdl i (by rcases hi with hi | hi; exact .inl hi; cases hi), Once.nil, by simp, fun ρ T a w next Q hr hb _ _ _ hnext => ?_⟩
    have h1 := hr x (by simp [ho, Op.operands])
    rw [hx] at h1
    obtain ⟨b, j1, j2⟩ := h1
    obtain ⟨sb, b', k1, k2, hTb, k4⟩ := hb id (.inl (by simp))
    rw [hl] at k1; cases k1
    rw [j1] at k2; cases k2
    obtain ⟨q, l1, rfl, l3⟩ := k4
    refine wp_value (x := .tuple #[.bool false]) (w' := w) ?_ (hnext _ w ρ T (Done.pure ⟨_, rfl, _, _, rfl, rfl, rfl⟩))
    simp only [execOp, ho, j2, Instr.next, getObj, Sem.run_bind, Sem.run, l1, Result.andThen, hp, if_false]
    rfl
end
end Go.Se

/- Part 9: calls, by what is known of them. -/
namespace Go.Se
variable {P : Program}

abbrev KC := SV → List (Option SB) → List Nat → Prop

/-- What a call has come to. -/
structure CallDone (ρ : Names) (T : Nat → Prop) (w : World) (σ : List (Option SB)) (v : SV) (σ' : List (Option SB)) (d : List Nat) (ρ' : Names) (T' : Nat → Prop) (w' : World) (x : Value) : Prop where
  names : ∀ p b, ρ p = some b → ρ' p = some b
  only : ∀ p b, ρ' p = some b → p < σ'.length
  len : σ.length ≤ σ'.length
  val : rel ρ' T' w' v x
  store : ∀ p sb, σ'[p]? = some (some sb) → ∃ b, ρ' p = some b ∧ T' b ∧ relB ρ' T' w' sb b
  fresh : ∀ p b, σ.length ≤ p → ρ' p = some b → w.heap.size ≤ b ∨ ∃ q, q ∈ d ∧ σ'[q]? = some none ∧ ρ q = some b
  inj : ∀ p q b, σ.length ≤ p → σ.length ≤ q → ρ' p = some b → ρ' q = some b → p = q
  dirty : ∀ p, p ∈ d → p < σ.length
  grow : Grow (fun b => ∃ p, p ∈ d ∧ ρ p = some b) w w'
  tback : ∀ b, b < w.heap.size → T' b → T b
  below : ∀ p b, ρ' p = some b → b < w'.heap.size
  tkeep : ∀ b, b < w.heap.size → T b → T' b ∨ ∃ q, q ∈ d ∧ σ'[q]? = some none ∧ ρ q = some b

/-- A call that comes to such an end: of Go's text, or of what the model has for it. -/
def Runs (P : Program) (k : FuncId) (vals : Array Value) (w : World) (R : Value → World → Prop) : Prop :=
  (∃ fn, P.funcs[k]? = some fn ∧ fn.body.isNone = false ∧ (fn.name == "runtime.NumGoroutine") = false ∧ Calls P k vals w fun e w' => ∃ x, e = .returned x ∧ R x w') ∨
  (∃ x w', (callFunc k vals).run P w = .ok (.value x) w' ∧ R x w')

/-- How memory lies where a call begins. -/
structure LowC (P : Program) (n : Nat) (ρ : Names) (T : Nat → Prop) (w : World) : Prop where
  low : ∀ p b, ρ p = some b → p < n ∧ b < w.heap.size
  inv : Inv P T w

instance (P : Program) (n : Nat) (ρ : Names) (T : Nat → Prop) (w : World) : CoeFun (LowC P n ρ T w) (fun _ => ∀ p b, ρ p = some b → p < n ∧ b < w.heap.size) := ⟨LowC.low⟩

def CallOK (P : Program) (k : FuncId) (xs : List SV) (σ : List (Option SB)) (v : SV) (σ' : List (Option SB)) (d : List Nat) : Prop :=
  ∀ (ρ : Names) (T : Nat → Prop) (w : World) (vals : Array Value), relL ρ T w xs vals.toList →
    (∀ p, p < σ.length → ∃ sb b, σ[p]? = some (some sb) ∧ ρ p = some b ∧ T b ∧ relB ρ T w sb b) →
    (∀ i j b, ρ i = some b → ρ j = some b → i = j) →
    LowC P σ.length ρ T w →
    Runs P k vals w fun x w' => ∃ ρ' T', CallDone ρ T w σ v σ' d ρ' T' w' x

/-- What is told of a call (Φ) holds of it. -/
def Sat (P : Program) (k : FuncId) (xs : List SV) (σ : List (Option SB)) (Φ : KC → Prop) : Prop :=
  ∀ K, Φ K → ∃ v σ' d, K v σ' d ∧ CallOK P k xs σ v σ' d

theorem idx_some {l : List Nat} {i : Nat} : ∀ {k p : Nat}, idx l i k = some p → k ≤ p ∧ l[p - k]? = some i := by
  induction l with
  | nil => intro k p h; simp [idx] at h
  | cons j l ih =>
    intro k p h
    simp only [idx] at h
    cases hb : Nat.beq j i with
    | true =>
      rw [hb] at h
      simp only [cond_true, Option.some.injEq] at h
      subst h
      simp [Nat.eq_of_beq_eq_true hb]
    | false =>
      rw [hb] at h
      obtain ⟨h1, h2⟩ := ih h
      refine ⟨by omega, ?_⟩
      rw [show p - k = (p - (k + 1)) + 1 by omega, List.getElem?_cons_succ]
      exact h2

mutual
theorem rel_ren {T : Nat → Prop} {w : World} {ρ ρ2 : Names} {f : Nat → Option Nat} (h : ∀ i j b, f i = some j → ρ i = some b → ρ2 j = some b) :
    ∀ (a : SV) (v : Value), rel ρ T w a v → rel ρ2 T w (ren f a) v
  | .junk, _, _ => trivial
  | .int _ _, _, h => h
  | .bool _, _, h => h
  | .str _, _, h => h
  | .nilp, _, h => h
  | .ptr id off, v, ⟨b, h1, h2⟩ => by
    simp only [ren]
    cases hf : f id with
    | none => trivial
    | some j => exact ⟨b, h _ _ _ hf h1, h2⟩
  | .eptr id i st o, v, ⟨b, h1, h2⟩ => by
    simp only [ren]
    cases hf : f id with
    | none => trivial
    | some j => exact ⟨b, h _ _ _ hf h1, h2⟩
  | .rptr cs, v, h => h
  | .fn g x y, v, ⟨a, c, h1, h2, h3⟩ => ⟨a, c, h1, relL_ren h x _ h2, relL_ren h y _ h3⟩
  | .nilfn, _, h => h
  | .agg cs, v, ⟨a, h1, h2⟩ => ⟨a, h1, relL_ren h cs _ h2⟩
  | .tup cs, v, ⟨a, h1, h2⟩ => ⟨a, h1, relL_ren h cs _ h2⟩
  | .nils, _, h => h
  | .emp, _, h => h
  | .arr id off len cap, v, ⟨⟨b, h1, h2⟩, h3⟩ => by
    simp only [ren]
    cases hf : f id with
    | none => trivial
    | some j => exact ⟨⟨b, h _ _ _ hf h1, h2⟩, h3⟩
  | .own id off st len, v, ⟨b, c, h1, h2⟩ => by
    simp only [ren]
    cases hf : f id with
    | none => trivial
    | some j => exact ⟨b, c, h _ _ _ hf h1, h2⟩
  | .ro len st g, v, h => h
  | .nilI, _, h => h
  | .iface t x, v, ⟨y, h1, h2⟩ => ⟨y, h1, rel_ren h x y h2⟩
  | .yld id, v, ⟨b, h1, h2⟩ => by
    simp only [ren]
    cases hf : f id with
    | none => trivial
    | some j => exact ⟨b, h _ _ _ hf h1, h2⟩
theorem relL_ren {T : Nat → Prop} {w : World} {ρ ρ2 : Names} {f : Nat → Option Nat} (h : ∀ i j b, f i = some j → ρ i = some b → ρ2 j = some b) :
    ∀ (l : List SV) (m : List Value), relL ρ T w l m → relL ρ2 T w (ren.renL f l) m
  | [], _, h => h
  | a :: l, _m, ⟨v, r, h1, h2, h3⟩ => ⟨v, r, h1, rel_ren h a v h2, relL_ren h l r h3⟩
end

theorem get_renT (f : Nat → Option Nat) : ∀ (l : Tmps) (t : Nat), get (renT f l) t = ren f (get l t)
  | [], t => rfl
  | (u, v) :: l, t => by
    simp only [renT, get]
    cases Nat.beq u t
    · exact get_renT f l t
    · rfl
theorem relB_ren {T : Nat → Prop} {w : World} {ρ ρ2 : Names} {f : Nat → Option Nat} (h : ∀ i j b, f i = some j → ρ i = some b → ρ2 j = some b) {sb : SB} {b : Nat}
    (hb : relB ρ T w sb b) : relB ρ2 T w (renB f sb) b := by
  cases sb with
  | cells e cs => obtain ⟨vs, h1, h2⟩ := hb; exact ⟨vs, h1, relL_ren h _ _ h2⟩
  | lst e cs => obtain ⟨vs, h1, m, r, h2, h3⟩ := hb; exact ⟨vs, h1, m, r, h2, relL_ren h _ _ h3⟩
  | row e st len g => exact hb
  | loop tm nt ps as bd pend => obtain ⟨r, h1, h2, h3, h4, h5, h6, h7⟩ := hb; exact ⟨r, h1, h2, h3, h4, h5, h6, fun t => by rw [get_renT]; exact rel_ren h _ _ (h7 t)⟩
  | iter s pos => exact hb

theorem any_beq {l : List Nat} {i : Nat} : l.any (Nat.beq i) = true ↔ i ∈ l := by
  rw [List.any_eq_true]
  constructor
  · rintro ⟨x, hx, h⟩; rw [Nat.eq_of_beq_eq_true h]; exact hx
  · intro h; exact ⟨i, h, Nat.beq_refl i⟩

theorem nodup_inj {l : List Nat} (h : l.Nodup) {i j : Nat} (hi : i < l.length) (hj : j < l.length) (e : l[i] = l[j]) : i = j := by
  have hp := List.pairwise_iff_getElem.1 h
  rcases Nat.lt_trichotomy i j with hlt | heq | hgt
  · exact absurd e (hp i j hi hj hlt)
  · exact heq
  · exact absurd e.symm (hp j i hj hi hgt)

theorem reach_ok {s : Store} : ∀ (n : Nat) (l acc : List Nat), acc.Nodup → (∀ i ∈ acc, ∃ sb, look s i = some sb) →
    (reach s n l acc).Nodup ∧ ∀ i ∈ reach s n l acc, ∃ sb, look s i = some sb
  | 0, l, acc, h1, h2 => by simpa [reach] using ⟨h1, h2⟩
  | n + 1, [], acc, h1, h2 => by simpa [reach] using ⟨h1, h2⟩
  | n + 1, i :: l, acc, h1, h2 => by
    simp only [reach]
    cases hb : acc.any (Nat.beq i) with
    | true => exact reach_ok n l acc h1 h2
    | false =>
      simp only [cond_false]
      have hni : i ∉ acc := by rw [← any_beq, hb]; simp
      split
      · rename_i sb hl
        refine reach_ok n _ _ ?_ ?_
        · rw [List.nodup_append]
          refine ⟨h1, by simp, ?_⟩
          intro a ha b hb'
          simp only [List.mem_singleton] at hb'
          rintro rfl
          exact hni (hb' ▸ ha)
        · intro j hj
          rcases List.mem_append.1 hj with hj | hj
          · exact h2 j hj
          · simp only [List.mem_singleton] at hj; subst hj; exact ⟨sb, hl⟩
      · exact reach_ok n l acc h1 h2

theorem backStore_mem {f : Nat → Option Nat} {F : List Nat} {nxt : Nat} {d : List Nat} : ∀ (σ : List (Option SB)) (p : Nat) (id : Nat) (ob : Option SB),
    (id, ob) ∈ backStore f F nxt d p σ → ∃ q o, p ≤ q ∧ σ[q - p]? = some o ∧ ob = o.map (renB f) ∧
      ((F[q]? = some id ∧ q ∈ d) ∨ (F[q]? = none ∧ id = nxt + (q - F.length)))
  | [], p, id, ob, h => by simp [backStore] at h
  | b :: l, p, id, ob, h => by
    have next : (id, ob) ∈ backStore f F nxt d (p + 1) l → ∃ q o, p ≤ q ∧ (b :: l)[q - p]? = some o ∧ ob = o.map (renB f) ∧
      ((F[q]? = some id ∧ q ∈ d) ∨ (F[q]? = none ∧ id = nxt + (q - F.length))) := by
      intro h
      obtain ⟨q, o, h1, h2, h3⟩ := backStore_mem l (p + 1) id ob h
      refine ⟨q, o, by omega, ?_, h3⟩
      rw [show q - p = (q - (p + 1)) + 1 by omega, List.getElem?_cons_succ]
      exact h2
    simp only [backStore] at h
    split at h
    · rename_i i hi
      cases hd : d.any (Nat.beq p) with
      | false => rw [hd] at h; exact next h
      | true =>
        rw [hd] at h
        simp only [cond_true, List.mem_cons, Prod.mk.injEq] at h
        rcases h with ⟨rfl, rfl⟩ | h
        · exact ⟨p, b, Nat.le_refl _, by simp, rfl, .inl ⟨hi, any_beq.1 hd⟩⟩
        · exact next h
    · rename_i hi
      simp only [List.mem_cons, Prod.mk.injEq] at h
      rcases h with ⟨rfl, rfl⟩ | h
      · exact ⟨p, b, Nat.le_refl _, by simp, rfl, .inr ⟨hi, rfl⟩⟩
      · exact next h

theorem backStore_dead {f : Nat → Option Nat} {F : List Nat} {nxt : Nat} {d : List Nat} : ∀ (σ : List (Option SB)) (p q i : Nat),
    p ≤ q → σ[q - p]? = some none → F[q]? = some i → q ∈ d → (i, none) ∈ backStore f F nxt d p σ
  | [], p, q, i, _, h, _, _ => by simp at h
  | b :: l, p, q, i, hp, h, hi, hd => by
    simp only [backStore]
    by_cases e : q = p
    · subst e
      simp only [Nat.sub_self, List.getElem?_cons_zero, Option.some.injEq] at h
      subst h
      rw [hi]
      simp only [any_beq.2 hd, cond_true, Option.map_none, List.mem_cons, true_or]
    · have ih := backStore_dead (f := f) (nxt := nxt) l (p + 1) q i (by omega) (by rw [show q - p = (q - (p + 1)) + 1 by omega, List.getElem?_cons_succ] at h; exact h) hi hd
      split
      · cases d.any (Nat.beq p)
        · exact ih
        · exact List.mem_cons_of_mem _ ih
      · exact List.mem_cons_of_mem _ ih

theorem backStore_cover {f : Nat → Option Nat} {F : List Nat} {nxt : Nat} {d : List Nat} : ∀ (σ : List (Option SB)) (p q i : Nat),
    p ≤ q → q - p < σ.length → F[q]? = some i → q ∈ d → ∃ o, (i, o) ∈ backStore f F nxt d p σ
  | [], p, q, i, _, h, _, _ => by simp at h
  | b :: l, p, q, i, hp, h, hi, hd => by
    simp only [backStore]
    by_cases e : q = p
    · subst e
      rw [hi]
      exact ⟨_, by simp only [any_beq.2 hd, cond_true]; exact List.mem_cons_self⟩
    · obtain ⟨o, ih⟩ := backStore_cover (f := f) (nxt := nxt) l (p + 1) q i (by omega) (by simp only [List.length_cons] at h; omega) hi hd
      refine ⟨o, ?_⟩
      split
      · cases d.any (Nat.beq p)
        · exact ih
        · exact List.mem_cons_of_mem _ ih
      · exact List.mem_cons_of_mem _ ih

section
variable {st : St} {o : Oper} {K : KV} {env : Env}

/-- A call, whatever is called: by the blocks that are reached. -/
theorem reach_done {L : List Nat} {v : SV} {σ' : List (Option SB)} {d : List Nat} {F : List Nat} (hF : reach st.store 200 L [] = F) :
    st.nxt ≤ st.nxt + (σ'.length - F.length) ∧ (∀ id, id ∈ F ∨ id ∈ (d.filterMap fun p => F[p]?) → ∃ sb, look st.store id = some sb) ∧ Once st (backStore (backName F st.nxt) F st.nxt d 0 σ') ∧
    (∀ id o, (id, o) ∈ backStore (backName F st.nxt) F st.nxt d 0 σ' → id ∈ (d.filterMap fun p => F[p]?) ∨ (st.nxt ≤ id ∧ id < st.nxt + (σ'.length - F.length))) ∧
    ∀ (ρ : Names) (T : Nat → Prop) (w : World),
      (∀ id, id ∈ F ∨ id ∈ (d.filterMap fun p => F[p]?) → ∃ sb b, look st.store id = some sb ∧ ρ id = some b ∧ T b ∧ relB ρ T w sb b) →
      (∀ i j b, i ∈ F ∨ i ∈ (d.filterMap fun p => F[p]?) → j ∈ F ∨ j ∈ (d.filterMap fun p => F[p]?) → ρ i = some b → ρ j = some b → i = j) →
      Low P ρ T w → (∀ id, st.nxt ≤ id → id < st.nxt + (σ'.length - F.length) → ρ id = none) →
      (∀ i j b : Nat, idx F i 0 = some j → ρ i = some b → ((F[j]?).bind ρ) = some b) ∧
      (∀ p, p < (F.map fun i => (look st.store i).map (renB fun i => idx F i 0)).length → ∃ sb b, (F.map fun i => (look st.store i).map (renB fun i => idx F i 0))[p]? = some (some sb) ∧ ((F[p]?).bind ρ) = some b ∧ T b ∧ relB (fun p => (F[p]?).bind ρ) T w sb b) ∧
      (∀ i j b : Nat, ((F[i]?).bind ρ) = some b → ((F[j]?).bind ρ) = some b → i = j) ∧
      LowC P (F.map fun i => (look st.store i).map (renB fun i => idx F i 0)).length (fun p => (F[p]?).bind ρ) T w ∧
      ∀ x w', (∃ ρ' T', CallDone (fun p => (F[p]?).bind ρ) T w (F.map fun i => (look st.store i).map (renB fun i => idx F i 0)) v σ' d ρ' T' w' x) →
        ∃ ρ'' T', Done ρ T w st.nxt (st.nxt + (σ'.length - F.length)) (ren (backName F st.nxt) v) (backStore (backName F st.nxt) F st.nxt d 0 σ') (d.filterMap fun p => F[p]?) ρ'' T' w' x := by
  obtain ⟨hnd, halive⟩ := reach_ok (s := st.store) 200 L [] List.nodup_nil (by simp)
  rw [hF] at hnd halive
  refine ⟨Nat.le_add_right _ _, ?_, ?_, ?_, ?_⟩
  · intro id hid
    rcases hid with hid | hid
    · exact halive id hid
    · obtain ⟨p, _, hp⟩ := List.mem_filterMap.1 hid
      exact halive id (List.mem_of_getElem? hp)
  · intro hlt id x y hx hy
    obtain ⟨q, o1, _, hq, rfl, hc1⟩ := backStore_mem _ _ _ _ hx
    obtain ⟨q', o2, _, hq', rfl, hc2⟩ := backStore_mem _ _ _ _ hy
    rw [Nat.sub_zero] at hq hq'
    have ge : ∀ q, F[q]? = none → F.length ≤ q := by
      intro q h6
      rcases Nat.lt_or_ge q F.length with h | h
      · rw [List.getElem?_eq_getElem h] at h6; cases h6
      · exact h
    have hqq : q = q' := by
      rcases hc1 with ⟨h1, _⟩ | ⟨h1, h2⟩ <;> rcases hc2 with ⟨h3, _⟩ | ⟨h3, h4⟩
      · obtain ⟨hi', hx'⟩ := List.getElem?_eq_some_iff.1 h1
        obtain ⟨hj', hy'⟩ := List.getElem?_eq_some_iff.1 h3
        exact nodup_inj hnd hi' hj' (hx'.trans hy'.symm)
      · obtain ⟨sb, hsb⟩ := halive id (List.mem_of_getElem? h1)
        have := hlt id sb hsb
        omega
      · obtain ⟨sb, hsb⟩ := halive id (List.mem_of_getElem? h3)
        have := hlt id sb hsb
        omega
      · have := ge q h1; have := ge q' h3; omega
    subst hqq
    rw [hq] at hq'
    cases hq'
    rfl
  · intro id ob hid
    obtain ⟨q, o', _, hq, _, hcase⟩ := backStore_mem _ _ _ _ hid
    rw [Nat.sub_zero] at hq
    rcases hcase with ⟨h6, h7⟩ | ⟨h6, h7⟩
    · left
      exact List.mem_filterMap.2 ⟨q, h7, h6⟩
    · right
      have hq' := (List.getElem?_eq_some_iff.1 hq).1
      have : F.length ≤ q := by
        rcases Nat.lt_or_ge q F.length with h | h
        · rw [List.getElem?_eq_getElem h] at h6; cases h6
        · exact h
      omega
  · intro ρ T w hb hinj hold hnew
    have hσlen : (F.map fun i => (look st.store i).map (renB fun i => idx F i 0)).length = F.length := by simp
    -- the caller's names, by place
    let ρc : Names := fun p => (F[p]?).bind ρ
    have hren : ∀ i j b, (fun i => idx F i 0) i = some j → ρ i = some b → ρc j = some b := by
      intro i j b hi hρ
      obtain ⟨_, hj⟩ := idx_some hi
      show (F[j]?).bind ρ = some b
      rw [Nat.sub_zero] at hj
      rw [hj]; exact hρ
    refine ⟨hren, ?_, ?_, ?_, ?_⟩
    · intro p hp
      rw [hσlen] at hp
      obtain ⟨sb, b, h3, h4, h5, h6⟩ := hb F[p] (.inl (List.getElem_mem hp))
      refine ⟨renB (fun i => idx F i 0) sb, b, ?_, ?_, h5, relB_ren hren h6⟩
      · rw [List.getElem?_map, List.getElem?_eq_getElem hp, Option.map_some, h3]; rfl
      · show (F[p]?).bind ρ = some b
        rw [List.getElem?_eq_getElem hp]; exact h4
    · intro i j b hi hj
      obtain ⟨x, hx, hxb⟩ := Option.bind_eq_some_iff.1 hi
      obtain ⟨y, hy, hyb⟩ := Option.bind_eq_some_iff.1 hj
      have hxy := hinj x y b (.inl (List.mem_of_getElem? hx)) (.inl (List.mem_of_getElem? hy)) hxb hyb
      subst hxy
      obtain ⟨hi', hx'⟩ := List.getElem?_eq_some_iff.1 hx
      obtain ⟨hj', hy'⟩ := List.getElem?_eq_some_iff.1 hy
      exact nodup_inj hnd hi' hj' (hx'.trans hy'.symm)
    · exact ⟨by
        intro p b hp
        obtain ⟨x, hx, hxb⟩ := Option.bind_eq_some_iff.1 hp
        rw [hσlen]
        exact ⟨(List.getElem?_eq_some_iff.1 hx).1, hold.low _ _ hxb⟩, hold.inv⟩
    · rintro x w' ⟨ρ', T', hd⟩
      have hlen : F.length ≤ σ'.length := by have := hd.len; rw [hσlen] at this; exact this
      let ρ'' : Names := fun id => if st.nxt ≤ id ∧ id < st.nxt + (σ'.length - F.length) then ρ' (F.length + (id - st.nxt)) else ρ id
      have hnames : ∀ id b, ρ id = some b → ρ'' id = some b := by
        intro id b hid
        show (if _ then _ else _) = _
        rw [if_neg]; · exact hid
        rintro ⟨h3, h4⟩
        rw [hnew id h3 h4] at hid; cases hid
      have hF' : ∀ p i, F[p]? = some i → ∀ b, ρ' p = some b → ρ i = some b := by
        intro p i hp b hb'
        obtain ⟨sb, c', _, h4, _⟩ := hb i (.inl (List.mem_of_getElem? hp))
        have : ρc p = some c' := by show (F[p]?).bind ρ = _; rw [hp]; exact h4
        rw [hd.names p c' this] at hb'
        rw [h4]; exact hb'
      have hback : ∀ p j b, backName F st.nxt p = some j → ρ' p = some b → ρ'' j = some b := by
        intro p j b hp hb'
        unfold backName at hp
        split at hp
        · rename_i i hi
          cases hp
          exact hnames _ _ (hF' p _ hi b hb')
        · rename_i hi
          cases hp
          have hp1 : F.length ≤ p := by
            rcases Nat.lt_or_ge p F.length with h | h
            · rw [List.getElem?_eq_getElem h] at hi; cases hi
            · exact h
          have hp2 := hd.only p b hb'
          show (if _ then _ else _) = _
          rw [if_pos ⟨by omega, by omega⟩, show F.length + (st.nxt + (p - F.length) - st.nxt) = p by omega]
          exact hb'
      refine ⟨ρ'', T', {
        names := hnames
        only := fun id b hid => ?_
        val := rel_ren hback _ _ hd.val
        turned := fun id sb hid => ?_
        keys := fun id ob hid => ?_
        cover := fun id hid => ?_
        fresh := fun id b h3 h4 h5 => ?_
        inj := fun i j b h3 h4 h5 h6 h7 h8 => ?_
        grow := hd.grow.mono fun b _ hb' => ?_
        tback := hd.tback
        below := fun id b h3 h4 h5 => hd.below _ b (by rw [← h5]; exact (if_pos ⟨h3, h4⟩).symm)
        tkeep := fun b hlt hb' => ?_ }⟩
      · by_cases hin : st.nxt ≤ id ∧ id < st.nxt + (σ'.length - F.length)
        · exact .inr hin
        · left
          have : ρ'' id = ρ id := if_neg hin
          rw [this] at hid; exact hid
      · obtain ⟨q, ob, _, hq, hob, hcase⟩ := backStore_mem _ _ _ _ hid
        rw [Nat.sub_zero] at hq
        cases ob with
        | none => simp at hob
        | some sb0 =>
          simp only [Option.map_some, Option.some.injEq] at hob
          subst hob
          obtain ⟨b, h3, h4, h5⟩ := hd.store q sb0 hq
          refine ⟨b, ?_, h4, relB_ren hback h5⟩
          apply hback q _ b _ h3
          unfold backName
          rcases hcase with ⟨h6, _⟩ | ⟨h6, h7⟩
          · rw [h6]
          · rw [h6, h7]
      · obtain ⟨q, o', _, hq, _, hcase⟩ := backStore_mem _ _ _ _ hid
        rw [Nat.sub_zero] at hq
        rcases hcase with ⟨h6, h7⟩ | ⟨h6, h7⟩
        · left
          exact List.mem_filterMap.2 ⟨q, h7, h6⟩
        · right
          have hq' := (List.getElem?_eq_some_iff.1 hq).1
          have : F.length ≤ q := by
            rcases Nat.lt_or_ge q F.length with h | h
            · rw [List.getElem?_eq_getElem h] at h6; cases h6
            · exact h
          omega
      · obtain ⟨q, hq, hqi⟩ := List.mem_filterMap.1 hid
        have hq1 := hd.dirty q hq
        have hq2 := hd.len
        exact backStore_cover _ 0 q id (Nat.zero_le _) (by omega) hqi hq
      · have h6 : ρ' (F.length + (id - st.nxt)) = some b := by
          have : ρ'' id = ρ' (F.length + (id - st.nxt)) := if_pos ⟨h3, h4⟩
          rw [← this]; exact h5
        rcases hd.fresh _ b (by rw [hσlen]; omega) h6 with h7 | ⟨q, h7, h8, h9⟩
        · exact .inl h7
        · right
          obtain ⟨i, hi, hib⟩ := Option.bind_eq_some_iff.1 h9
          exact ⟨i, List.mem_filterMap.2 ⟨q, h7, hi⟩, backStore_dead _ 0 q i (Nat.zero_le _) (by rw [Nat.sub_zero]; exact h8) hi h7, hib⟩
      · have e1 : ρ'' i = ρ' (F.length + (i - st.nxt)) := if_pos ⟨h3, h4⟩
        have e2 : ρ'' j = ρ' (F.length + (j - st.nxt)) := if_pos ⟨h5, h6⟩
        rw [e1] at h7; rw [e2] at h8
        have := hd.inj _ _ b (by rw [hσlen]; omega) (by rw [hσlen]; omega) h7 h8
        omega
      · obtain ⟨p, hp, hpb⟩ := hb'
        obtain ⟨i, hi, hib⟩ := Option.bind_eq_some_iff.1 hpb
        exact ⟨i, List.mem_filterMap.2 ⟨p, hp, hi⟩, hib⟩
      · rcases hd.tkeep b hlt hb' with h3 | ⟨q, h7, h8, h9⟩
        · exact .inl h3
        · right
          obtain ⟨i, hi, hib⟩ := Option.bind_eq_some_iff.1 h9
          exact ⟨i, List.mem_filterMap.2 ⟨q, h7, hi⟩, backStore_dead _ 0 q i (Nat.zero_le _) (by rw [Nat.sub_zero]; exact h8) hi h7, hib⟩

theorem good_reach {L : List Nat} {v : SV} {σ' : List (Option SB)} {d : List Nat} {F : List Nat} (hF : reach st.store 200 L [] = F)
    (hK : K (ren (backName F st.nxt) v) (backStore (backName F st.nxt) F st.nxt d 0 σ') (st.nxt + (σ'.length - F.length)) F (d.filterMap fun p => F[p]?))
    (hgo : ∀ (ρ : Names) (T : Nat → Prop) (a : Act) (w : World) (next : Act → World → Prop) (Q : Exit → Act → World → Prop), (∀ x, x ∈ o.op.operands → rel ρ T w (eval st.tmps x) (a.eval x)) →
      (∀ i j b : Nat, idx F i 0 = some j → ρ i = some b → ((F[j]?).bind ρ) = some b) →
      (∀ p, p < (F.map fun i => (look st.store i).map (renB fun i => idx F i 0)).length → ∃ sb b, (F.map fun i => (look st.store i).map (renB fun i => idx F i 0))[p]? = some (some sb) ∧ ((F[p]?).bind ρ) = some b ∧ T b ∧ relB (fun p => (F[p]?).bind ρ) T w sb b) →
      (∀ i j b : Nat, ((F[i]?).bind ρ) = some b → ((F[j]?).bind ρ) = some b → i = j) →
      LowC P (F.map fun i => (look st.store i).map (renB fun i => idx F i 0)).length (fun p => (F[p]?).bind ρ) T w →
      (∀ x w', (∃ ρ' T', CallDone (fun p => (F[p]?).bind ρ) T w (F.map fun i => (look st.store i).map (renB fun i => idx F i 0)) v σ' d ρ' T' w' x) → next (a.put o.dst x) w') → wpW P o a w next Q) : Good P st o K := by
  obtain ⟨h1, h2, h3, h4, h5⟩ := reach_done (P := P) (st := st) (v := v) (σ' := σ') (d := d) hF
  refine ⟨_, _, _, _, _, hK, h1, h2, h3, h4, fun ρ T a w next Q hr hb hinj hold hnew hnext => ?_⟩
  obtain ⟨k1, k2, k3, k4, k5⟩ := h5 ρ T w hb hinj hold hnew
  refine hgo ρ T a w next Q hr k1 k2 k3 k4 fun x w' hx => ?_
  obtain ⟨ρ'', T', hd⟩ := k5 x w' hx
  exact hnext x w' ρ'' T' hd

theorem good_call {c : Call} {f : Operand} {k : FuncId} {first cap : List SV} (hs : ∀ xs σ, Sat P k xs σ (env.callee k xs σ)) (ho : o.op = .call c) (hc : c.callee = .value f)
    (hf : eval st.tmps f = .fn (.func k) first cap) (h : callE env st k (first ++ c.args.toList.map (eval st.tmps) ++ cap) K) : Good P st o K := by
  unfold callE at h
  generalize hxs : first ++ c.args.toList.map (eval st.tmps) ++ cap = xs at h
  simp only at h
  generalize hF : reach st.store 200 (ids.idsL xs) [] = F at h
  obtain ⟨v, σ', d, hK, hok⟩ := hs _ _ _ h
  refine good_reach hF hK fun ρ T a w next Q hr hren m1 m2 m3 hdone => ?_
  have hfv : ∃ a1 a2, a.eval f = .func (.func k) a1 a2 ∧ relL ρ T w first a1.toList ∧ relL ρ T w cap a2.toList := by
    have := hr f (by simp [ho, Op.operands, Call.operands, hc])
    rw [hf] at this
    exact this
  obtain ⟨a1, a2, hfe, h1, h2⟩ := hfv
  have hargs : relL ρ T w xs (a1 ++ c.args.map a.eval ++ a2).toList := by
    rw [← hxs, Array.toList_append, Array.toList_append]
    refine relL_append (relL_append h1 ?_) h2
    rw [Array.toList_map]
    refine relL_map _ fun x hx => hr x ?_
    simp only [ho, Op.operands, Call.operands, hc]
    exact Array.mem_append.2 (Or.inr (Array.mem_def.2 hx))
  have hruns := hok (fun p => (F[p]?).bind ρ) T w (a1 ++ c.args.map a.eval ++ a2) (relL_ren hren _ _ hargs) m1 m2 m3
  have hexec : execOp a.eval o = callFunc k (a1 ++ c.args.map a.eval ++ a2) := by
    simp only [execOp, ho, resolve, hc, hfe, Deferred.ofValue]
    rfl
  rcases hruns with ⟨fn, hfn, hbody, hname, hcalls⟩ | ⟨x, w', hrun, hR⟩
  · have hrun : (execOp a.eval o).run P w = .ok (.enter k (a1 ++ c.args.map a.eval ++ a2)) w := by
      rw [hexec]
      simp only [callFunc, Sem.run_bind, run_program, Result.andThen_ok, hfn, hname, Bool.false_eq_true, if_false, hbody, Sem.run_pure]
    refine wpW_of (fun _ => no_defer (fun _ h => by cases h) hrun) fun F2 n hF2 => ?_
    rw [hrun, Oper.uponIn_enter]
    refine ⟨fun hd => (by rw [hF2.depth] at hd; cases hd), hF2.calls (hcalls.mono fun e w' he => ?_)⟩
    obtain ⟨x, rfl, hR⟩ := he
    exact hdone x w' hR
  · exact wp_value (by rw [hexec]; exact hrun) (hdone x w' hR)

end
end Go.Se

/- Rounds of ranges over functions, by what is known of them. -/
namespace Go.Se
variable {P : Program}

/-- A round that comes to such an end. -/
def RunsY (P : Program) (l : Nat) (vals : Array Value) (w : World) (R : Value → World → Prop) : Prop :=
  ∃ r : Loop, w.heap[l]? = some (.loop r) ∧ vals.size = r.params.size ∧ ∀ (F : Fence) (n : Nat), Wd F →
    RoundIn F n P l r.fn ((r.params.zip vals).foldl (fun tmps (t, a) => tmps.setIfInBounds t a) r.tmps) r.assign r.body w fun e w' => ∃ x, e = .returned x ∧ R x w'
def RoundOK (P : Program) (xs : List SV) (σ : List (Option SB)) (v : SV) (σ' : List (Option SB)) (d : List Nat) : Prop :=
  ∀ (ρ : Names) (T : Nat → Prop) (w : World) (vals : Array Value), relL ρ T w xs vals.toList →
    (∀ p, p < σ.length → ∃ sb b, σ[p]? = some (some sb) ∧ ρ p = some b ∧ T b ∧ relB ρ T w sb b) →
    (∀ i j b, ρ i = some b → ρ j = some b → i = j) →
    LowC P σ.length ρ T w →
    ∃ l, ρ 0 = some l ∧ RunsY P l vals w fun x w' => ∃ ρ' T', CallDone ρ T w σ v σ' d ρ' T' w' x
def RSat (P : Program) (xs : List SV) (σ : List (Option SB)) (Φ : KC → Prop) : Prop :=
  ∀ K, Φ K → ∃ v σ' d, K v σ' d ∧ RoundOK P xs σ v σ' d

theorem reach_acc {s : Store} : ∀ (n : Nat) (l acc : List Nat), ∃ t, reach s n l acc = acc ++ t
  | 0, _, acc => ⟨[], by simp [reach]⟩
  | n + 1, [], acc => ⟨[], by simp [reach]⟩
  | n + 1, i :: l, acc => by
    simp only [reach]
    cases acc.any (Nat.beq i) with
    | true => exact reach_acc n l acc
    | false =>
      simp only [cond_false]
      split
      · obtain ⟨t, h⟩ := reach_acc (s := s) n (idsB _ ++ l) (acc ++ [i])
        exact ⟨[i] ++ t, by rw [h, List.append_assoc]⟩
      · exact reach_acc n l acc
theorem reach_head {s : Store} {i : Nat} {l : List Nat} {sb : SB} (h : look s i = some sb) : (reach s 200 (i :: l) [])[0]? = some i := by
  have e : reach s 200 (i :: l) [] = reach s 199 (idsB sb ++ l) [i] := by
    show (bif ([] : List Nat).any (Nat.beq i) then _ else _) = _
    simp [h]
  obtain ⟨t, ht⟩ := reach_acc (s := s) 199 (idsB sb ++ l) [i]
  rw [e, ht]; rfl

theorem good_yield {st : St} {o : Oper} {K : KV} {env : Env} {c : Call} {f : Operand} {id : Nat} (hs : ∀ xs σ, RSat P xs σ (env.round xs σ)) (ho : o.op = .call c) (hc : c.callee = .value f)
    (hf : eval st.tmps f = .yld id) (h : yieldE env st id (c.args.toList.map (eval st.tmps)) K) : Good P st o K := by
  unfold yieldE at h
  split at h
  case h_2 => exact h.elim
  rename_i tm nt ps as bd pend hl
  generalize hxs : c.args.toList.map (eval st.tmps) = xs at h
  simp only at h
  have hhead := reach_head (l := ids.idsL xs) hl
  generalize hF : reach st.store 200 (id :: ids.idsL xs) [] = F at h hhead
  obtain ⟨v, σ', d, hK, hok⟩ := hs _ _ _ h
  refine good_reach hF hK fun ρ T a w next Q hr hren m1 m2 m3 hdone => ?_
  have hfv : ∃ b, ρ id = some b ∧ a.eval f = .func (.yield b) #[] #[] := by
    have := hr f (by simp [ho, Op.operands, Call.operands, hc])
    rw [hf] at this
    exact this
  obtain ⟨b, hb, hfe⟩ := hfv
  have hargs : relL ρ T w xs (c.args.map a.eval).toList := by
    rw [← hxs, Array.toList_map]
    refine relL_map _ fun x hx => hr x ?_
    simp only [ho, Op.operands, Call.operands, hc]
    exact Array.mem_append.2 (Or.inr (Array.mem_def.2 hx))
  obtain ⟨l, hl0, r, hr1, hr2, hr3⟩ := hok (fun p => (F[p]?).bind ρ) T w (c.args.map a.eval) (relL_ren hren _ _ hargs) m1 m2 m3
  have hlb : l = b := by
    have : ((F[0]?).bind ρ) = some l := hl0
    rw [hhead] at this
    have h2 : ρ id = some l := this
    rw [hb] at h2; cases h2; rfl
  subst hlb
  have hexec : execOp a.eval o = Instr.yield l (#[] ++ c.args.map a.eval ++ #[]) := by
    simp only [execOp, ho, resolve, hc, hfe, Deferred.ofValue]
    rfl
  have hrun := run_yield (P := P) (args := #[] ++ c.args.map a.eval ++ #[]) hr1 (by simpa using hr2)
  rw [← hexec] at hrun
  refine wpW_of (fun _ => no_defer (fun _ h => by cases h) hrun) fun F2 n hF2 => ?_
  rw [hrun, Oper.uponIn_round]
  refine ⟨fun hd => (by rw [hF2.depth] at hd; cases hd), ?_⟩
  have := hr3 F2 (n - 1) hF2
  simp only [Array.empty_append, Array.append_empty]
  refine this.mono fun e w' he => ?_
  obtain ⟨x, rfl, hR⟩ := he
  exact hdone x w' hR
end Go.Se

/- Part 10: every operation. -/
namespace Go.Se
variable {P : Program}

/-- What is told of the program is so. -/
structure EnvOK (P : Program) (env : Env) : Prop where
  tt : ∀ t ti, env.tt t = some ti → TIok P t ti
  callee : ∀ k xs σ, Sat P k xs σ (env.callee k xs σ)

/-- Where rounds and bodies are known, too. -/
structure EnvOK2 (P : Program) (env : Env) : Prop extends EnvOK P env where
  round : ∀ xs σ, RSat P xs σ (env.round xs σ)
  ft : ∀ k fn, env.ft k = some fn → P.funcs[k]? = some fn ∧ (fn.name == "runtime.NumGoroutine") = false

theorem evalOp_ok {env : Env} (he : EnvOK2 P env) {st : St} {o : Oper} {K : KV} (h : evalOp env st o.op K) : Good P st o K := by
  cases ho : o.op <;> simp only [ho, evalOp] at h
  case move x => exact good_move ho h
  case assign x => exact good_assign ho h
  case pick c x y =>
    split at h
    · rename_i b hb; exact good_pick ho hb h
    · exact h.elim
  case alloc t =>
    split at h
    · rename_i ti ht; exact good_alloc he.tt ho ht h
    · exact h.elim
  case box t x =>
    split at h
    · exact h.elim
    · rename_i hj; exact good_box ho hj h
  case build t ps => exact good_build he.tt ho h
  case buildSlice t n ps => exact good_buildSlice he.tt ho h
  case load t x => exact good_load he.tt ho h
  case store t x y => exact good_store he.tt ho h
  case nilCheck x =>
    split at h
    · rename_i i off hx; exact good_nilCheck ho (by rw [hx]) (by rw [hx]; exact h)
    · rename_i i j k l hx; exact good_nilCheck ho (by rw [hx]) (by rw [hx]; exact h)
    · rename_i cs hx; exact good_nilCheck ho (by rw [hx]) (by rw [hx]; exact h)
    · exact h.elim
  case binOp op t x y ty => exact good_binOp he.tt ho h
  case unOp op t x => exact good_unOp ho h
  case convert src dst x =>
    split at h
    · rename_i id off len c hx; exact good_bytes he.tt ho hx h
    · rename_i len sz g hx; exact good_bytesR he.tt ho (.inl hx) h
    · rename_i hx; exact good_bytesR he.tt ho (.inr ⟨hx, rfl⟩) h
    · rename_i id sz len hx; exact good_bytesO he.tt ho hx h
    · rename_i id off hx; exact good_unsafe he.tt ho hx h
    · exact good_convert he.tt ho h
  case slice t x lo hi mx =>
    split at h
    · exact good_slice he.tt ho h
    · exact good_slice3 he.tt ho h
  case sliceToArrayPointer t x => exact good_arrayAt he.tt ho h
  case makeSlice t x y => exact good_makeSlice he.tt ho h
  case makeFunc f x y => exact good_makeFunc ho h
  case fieldAddr s x f => exact good_fieldAddr he.tt rfl ho h
  case field s x f => exact good_field he.tt rfl ho h
  case indexAddr t x i => exact good_indexAddr he.tt rfl ho h
  case index t x i => exact good_index he.tt rfl ho h
  case range t x => exact good_range he.tt ho h
  case next x b =>
    cases b with
    | false => exact h.elim
    | true => exact good_next ho h
  case extract x i =>
    split at h
    · rename_i vs hx
      split at h
      · rename_i v hv; exact good_extract ho hx hv h
      · exact h.elim
    · exact h.elim
  case makeInterface t x =>
    split at h
    · rename_i ti ht
      cases hi : isIfaceK ti.kind with
      | true => rw [hi] at h; exact h.elim
      | false => rw [hi] at h; exact good_makeInterface ho (he.tt _ _ ht) hi h
    · exact h.elim
  case call c =>
    split at h
    · rename_i f hc
      split at h
      · rename_i k first cap hf; exact good_call (he.callee k) ho hc hf h
      · rename_i id hf; exact good_yield he.round ho hc hf h
      · exact h.elim
    · rename_i b hc; exact good_builtin he.tt ho hc h
    · exact h.elim
  all_goals exact h.elim

end Go.Se

/- Part 11: the state of a call that runs, and one operation of it. -/
namespace Go.Se
variable {P : Program}

/-- How the call began. -/
structure Base (P : Program) where
  w : World
  ρ : Names
  T : Nat → Prop
  n : Nat

/-- The marks of ranges over functions that a frame bears: their blocks lie as they were laid. -/
def Marks (n : Nat) (T : Nat → Prop) (w : World) (ds : List Deferred) : Prop :=
  ∃ Ds : List Nat, ds = Ds.map (fun D => ({ target := .collected D, args := #[] } : Deferred)) ∧ Ds.Nodup ∧ ∀ D ∈ Ds, n ≤ D ∧ ¬ T D ∧ w.heap[D]? = some (.deferred (some []))
theorem Marks.nil {n : Nat} {T : Nat → Prop} {w : World} : Marks n T w [] := ⟨[], rfl, List.nodup_nil, fun _ h => by cases h⟩
theorem Marks.grow {n : Nat} {T T' : Nat → Prop} {w w' : World} {ds : List Deferred} (h : Marks n T w ds) (hT : ∀ b, b < w.heap.size → T' b → T b) (hw : Grow T w w') : Marks n T' w' ds := by
  obtain ⟨Ds, h1, h2, h3⟩ := h
  refine ⟨Ds, h1, h2, fun D hD => ?_⟩
  obtain ⟨k1, k2, k3⟩ := h3 D hD
  have hlt : D < w.heap.size := (Array.getElem?_eq_some_iff.1 k3).1
  exact ⟨k1, fun ht => k2 (hT D hlt ht), by rw [hw.same D hlt k2]; exact k3⟩

/-- What holds of a frame and of memory: tm tells the temporaries, sf the blocks, A which names are given, D which blocks may have been turned. -/
structure Holds (B : Base P) (tm : Nat → SV) (sf : Nat → Option SB) (A : Nat → Prop) (D : List Nat) (nt : Nat) (a : Act) (w : World) (ρ : Names) (T : Nat → Prop) : Prop where
  defers : Marks B.w.heap.size T w a.defers
  size : a.tmps.size = nt
  tmps : ∀ t, rel ρ T w (tm t) (a.tmps.getD t undef)
  store : ∀ id sb, sf id = some sb → A id ∧ ∃ b, ρ id = some b ∧ T b ∧ relB ρ T w sb b
  names : ∀ id b, ρ id = some b → A id ∧ b < w.heap.size
  inj : ∀ i j b, (sf i).isSome → (sf j).isSome → ρ i = some b → ρ j = some b → i = j
  base : ∀ id, id < B.n → A id
  full : ∀ p, p < B.n → ∃ b, B.ρ p = some b
  grow : Grow (fun b => ∃ p, p ∈ D ∧ p < B.n ∧ B.ρ p = some b) B.w w
  old : ∀ p b, B.ρ p = some b → p < B.n ∧ ρ p = some b
  tback : ∀ b, b < B.w.heap.size → T b → B.T b
  tkeep : ∀ b, b < B.w.heap.size → B.T b → T b ∨ ∃ q, q ∈ D ∧ q < B.n ∧ sf q = none ∧ B.ρ q = some b
  fresh : ∀ id b, (sf id).isSome → B.n ≤ id → ρ id = some b → B.w.heap.size ≤ b ∨ ∃ q, q ∈ D ∧ q < B.n ∧ sf q = none ∧ B.ρ q = some b
  inv : Inv P T w

def upd (f : Nat → SV) (d : Option Nat) (v : SV) : Nat → SV :=
  match d with
  | some d => fun t => if t = d then v else f t
  | none => f

def updS (f : Nat → Option SB) (u : Store) : Nat → Option SB :=
  match u with
  | [] => f
  | (i, o) :: u => fun id => if id = i then o else updS f u id

theorem updS_cases (f : Nat → Option SB) : ∀ (u : Store) (id : Nat), (∃ o, (id, o) ∈ u ∧ updS f u id = o) ∨ ((∀ o, (id, o) ∉ u) ∧ updS f u id = f id)
  | [], id => Or.inr (And.intro (fun _ h => nomatch h) rfl)
  | (i, o) :: u, id => by
    by_cases h : id = i
    · subst h
      exact .inl ⟨o, by simp, by simp [updS]⟩
    · rcases updS_cases f u id with ⟨o', h1, h2⟩ | ⟨h1, h2⟩
      · exact .inl ⟨o', by simp [h1], by simp [updS, h, h2]⟩
      · exact .inr ⟨fun o' ho => by
          simp only [List.mem_cons, Prod.mk.injEq] at ho
          rcases ho with ⟨h3, _⟩ | ho
          · exact h h3
          · exact h1 o' ho, by simp [updS, h, h2]⟩

theorem look_updS (u s : Store) (id : Nat) : look (u ++ s) id = updS (look s) u id := by
  induction u with
  | nil => rfl
  | cons p u ih =>
    obtain ⟨i, o⟩ := p
    simp only [List.cons_append, look, updS]
    by_cases h : id = i
    · subst h; simp
    · have : Nat.beq i id = false := by
        rw [Bool.eq_false_iff]; intro e; exact h (Nat.eq_of_beq_eq_true e).symm
      rw [this, if_neg h]; exact ih

theorem put_getD (a : Act) (d : Nat) (x : Value) (h : d < a.tmps.size) (t : Nat) : (a.put (some d) x).tmps.getD t undef = if t = d then x else a.tmps.getD t undef := by
  simp only [Act.put, Array.getD_eq_getD_getElem?]
  by_cases e : t = d
  · subst e; simp [h]
  · rw [Array.getElem?_setIfInBounds_ne (Ne.symm e), if_neg e]

/-- One operation's end. -/
theorem Holds.done {B : Base P} {tm : Nat → SV} {sf : Nat → Option SB} {A : Nat → Prop} {D : List Nat} {nt : Nat} {a : Act} {w : World} {ρ : Names} {T : Nat → Prop}
    (h : Holds B tm sf A D nt a w ρ T) {nxt n : Nat} {v : SV} {u : Store} {wr : List Nat} {ρ' : Names} {T' : Nat → Prop} {w' : World} {x : Value} {dst : Option Nat}
    (hd : Done ρ T w nxt n v u wr ρ' T' w' x) (hdst : ∀ d, dst = some d → d < nt) (hB : B.n ≤ nxt)
    (hnew : ∀ id, nxt ≤ id → id < n → ¬ A id) (hwr : ∀ id, id ∈ wr → (sf id).isSome) (hf : ∀ id x y, (id, x) ∈ u → (id, y) ∈ u → x = y)
    {D' : List Nat} (hD : ∀ p, p ∈ D → p ∈ D') (hD' : ∀ p, p ∈ wr → p ∈ D') {A' : Nat → Prop} (hA : ∀ id, A' id ↔ A id ∨ (nxt ≤ id ∧ id < n)) :
    Holds B (upd tm dst v) (updS sf u) A' D' nt (a.put dst x) w' ρ' T' := by
  have hgT : Grow T w w' := hd.grow.mono fun b hb ⟨id, h1, h2⟩ => by
    obtain ⟨sb, hsb⟩ := Option.isSome_iff_exists.1 (hwr id h1)
    obtain ⟨_, b', h3, h4, _⟩ := h.store id sb hsb
    rw [h2] at h3; cases h3; exact h4
  have hmono : ∀ (s : SV) (y : Value), rel ρ T w s y → rel ρ' T' w' s y := rel_mono hd.names hd.tback hgT
  -- a block that is told as before, and not by u
  have hkeep : ∀ id sb, sf id = some sb → (∀ o, (id, o) ∉ u) → id ∉ wr → ∃ b, ρ' id = some b ∧ T' b ∧ relB ρ' T' w' sb b := by
    intro id sb hsb hnu hnw
    obtain ⟨_, b, h3, h4, h5⟩ := h.store id sb hsb
    have hlt := relB_lt h5
    refine ⟨b, hd.names _ _ h3, ?_, relB_mono hd.names hd.tback hgT (hd.grow.same b hlt ?_) h5⟩
    · rcases hd.tkeep b hlt h4 with h6 | ⟨j, h6, h7, h8⟩
      · exact h6
      · have := h.inj id j b (by rw [hsb]; rfl) (hwr j h6) h3 h8
        subst this
        exact absurd h7 (hnu _)
    · rintro ⟨j, h6, h7⟩
      have := h.inj id j b (by rw [hsb]; rfl) (hwr j h6) h3 h7
      subst this
      exact hnw h6
  have hdead : ∀ q, sf q = none → q < B.n → updS sf u q = none := by
    intro q hq hqn
    rcases updS_cases sf u q with ⟨o, h1, h2⟩ | ⟨_, h2⟩
    · rcases hd.keys q o h1 with h3 | h3
      · have := hwr q h3; rw [hq] at this; cases this
      · omega
    · rw [h2]; exact hq
  have hdeadU : ∀ q, (q, none) ∈ u → updS sf u q = none := by
    intro q hq
    rcases updS_cases sf u q with ⟨o, h1, h2⟩ | ⟨h1, _⟩
    · rw [h2]; exact hf q o none h1 hq
    · exact absurd hq (h1 _)
  have hconsumed : ∀ j b, j ∈ wr → (j, none) ∈ u → ρ j = some b →
      (B.w.heap.size ≤ b ∨ ∃ q, q ∈ D' ∧ q < B.n ∧ updS sf u q = none ∧ B.ρ q = some b) := by
    intro j b hj hju hjb
    by_cases hjn : j < B.n
    · by_cases hold : b < B.w.heap.size
      · right
        refine ⟨j, hD' j hj, hjn, hdeadU j hju, ?_⟩
        obtain ⟨b', hb'⟩ := h.full j hjn
        have := (h.old j b' hb').2
        rw [hjb] at this; cases this
        exact hb'
      · left; omega
    · rcases h.fresh j b (hwr j hj) (by omega) hjb with h1 | ⟨q, h1, h2, h3, h4⟩
      · exact .inl h1
      · exact .inr ⟨q, hD q h1, h2, hdead q h3 h2, h4⟩
  -- what is alive now and has an old name was alive
  have halive : ∀ (i : Nat) (b : Nat), (updS sf u i).isSome → A i → (sf i).isSome := by
    intro i b hi hAi
    rcases updS_cases sf u i with ⟨o, h1, h2⟩ | ⟨_, h2⟩
    · rcases hd.keys i o h1 with h3 | h3
      · exact hwr i h3
      · exact absurd hAi (hnew i h3.1 h3.2)
    · rw [h2] at hi; exact hi
  have holdname : ∀ i b, ρ' i = some b → ¬ (nxt ≤ i ∧ i < n) → ρ i = some b := by
    intro i b hi hn
    exact (hd.only i b hi).resolve_right hn
  have mixed : ∀ i j b, (nxt ≤ i ∧ i < n) → ¬ (nxt ≤ j ∧ j < n) → (updS sf u j).isSome → ρ' i = some b → ρ' j = some b → False := by
    intro i j b hi hj hjs hib hjb
    have hjo := holdname j b hjb hj
    have hAj := (h.names j b hjo).1
    rcases hd.fresh i b hi.1 hi.2 hib with h1 | ⟨q, h1, h2, h3⟩
    · have := (h.names j b hjo).2; omega
    · have := h.inj q j b (hwr q h1) (halive j b hjs hAj) h3 hjo
      subst this
      rw [hdeadU q h2] at hjs; cases hjs
  refine { defers := ?_, size := ?_, tmps := ?_, store := ?_, names := ?_, inj := ?_, base := fun id hid => (hA id).2 (.inl (h.base id hid)), full := h.full, grow := ?_, old := ?_, tback := ?_, tkeep := ?_, fresh := ?_, inv := h.inv.grow hd.tback hgT }
  · have := h.defers.grow hd.tback hgT
    cases dst <;> exact this
  · cases dst with
    | none => exact h.size
    | some d => simp [Act.put, h.size]
  · intro t
    cases dst with
    | none => exact hmono _ _ (h.tmps t)
    | some d =>
      rw [put_getD a d x (by rw [h.size]; exact hdst d rfl)]
      unfold upd
      by_cases e : t = d
      · simp only [e, if_true]; exact hd.val
      · simp only [e, if_false]; exact hmono _ _ (h.tmps t)
  · intro id sb hid
    rcases updS_cases sf u id with ⟨o, h1, h2⟩ | ⟨h1, h2⟩
    · rw [h2] at hid
      subst hid
      refine ⟨(hA id).2 ?_, hd.turned id sb h1⟩
      rcases hd.keys id _ h1 with h3 | h3
      · obtain ⟨sb', hsb'⟩ := Option.isSome_iff_exists.1 (hwr id h3)
        exact .inl (h.store id sb' hsb').1
      · exact .inr h3
    · rw [h2] at hid
      refine ⟨(hA id).2 (.inl (h.store id sb hid).1), hkeep id sb hid h1 fun hw => ?_⟩
      obtain ⟨o, ho⟩ := hd.cover id hw
      exact h1 o ho
  · intro id b hid
    rcases hd.only id b hid with h1 | h1
    · obtain ⟨h2, h3⟩ := h.names id b h1
      exact ⟨(hA id).2 (.inl h2), Nat.lt_of_lt_of_le h3 hd.grow.size⟩
    · refine ⟨(hA id).2 (.inr h1), ?_⟩
      exact hd.below id b h1.1 h1.2 hid
  · intro i j b hi hj hib hjb
    by_cases hin : nxt ≤ i ∧ i < n <;> by_cases hjn : nxt ≤ j ∧ j < n
    · exact hd.inj i j b hin.1 hin.2 hjn.1 hjn.2 hib hjb
    · exact (mixed i j b hin hjn hj hib hjb).elim
    · exact (mixed j i b hjn hin hi hjb hib).elim
    · have h1 := holdname i b hib hin
      have h2 := holdname j b hjb hjn
      exact h.inj i j b (halive i b hi (h.names i b h1).1) (halive j b hj (h.names j b h2).1) h1 h2
  · refine (h.grow.mono fun b _ ⟨p, h1, h2, h3⟩ => ⟨p, hD p h1, h2, h3⟩).trans hd.grow fun b hb ⟨id, h1, h2⟩ => ?_
    by_cases hin : id < B.n
    · obtain ⟨b', hb'⟩ := h.full id hin
      have := (h.old id b' hb').2
      rw [h2] at this; cases this
      exact ⟨id, hD' id h1, hin, hb'⟩
    · rcases h.fresh id b (hwr id h1) (by omega) h2 with h3 | ⟨q, h3, h4, _, h5⟩
      · omega
      · exact ⟨q, hD q h3, h4, h5⟩
  · intro p b hp
    exact ⟨(h.old p b hp).1, hd.names _ _ (h.old p b hp).2⟩
  · intro b hb hT
    exact h.tback b hb (hd.tback b (Nat.lt_of_lt_of_le hb h.grow.size) hT)
  · intro b hlt hb
    rcases h.tkeep b hlt hb with h1 | ⟨q, h1, h2, h3, h4⟩
    · rcases hd.tkeep b (Nat.lt_of_lt_of_le hlt h.grow.size) h1 with h2 | ⟨j, h2, h3, h4⟩
      · exact .inl h2
      · rcases hconsumed j b h2 h3 h4 with h5 | h5
        · omega
        · exact .inr h5
    · exact .inr ⟨q, hD q h1, h2, hdead q h3 h2, h4⟩
  · intro id b hid hn hib
    by_cases hin : nxt ≤ id ∧ id < n
    · rcases hd.fresh id b hin.1 hin.2 hib with h1 | ⟨q, h1, h2, h3⟩
      · left; exact Nat.le_trans h.grow.size h1
      · exact hconsumed q b h1 h2 h3
    · have h1 := holdname id b hib hin
      rcases h.fresh id b (halive id b hid (h.names id b h1).1) hn h1 with h2 | ⟨q, h2, h3, h4, h5⟩
      · exact .inl h2
      · exact .inr ⟨q, hD q h2, h3, hdead q h4 h3, h5⟩

/-- Another block than cells is turned, which is not one's own. -/
theorem Holds.put {B : Base P} {tm : Nat → SV} {sf : Nat → Option SB} {A : Nat → Prop} {Ds : List Nat} {nt : Nat} {a : Act} {w w' : World} {ρ : Names} {T : Nat → Prop} {D : Nat}
    (h : Holds B tm sf A Ds nt a w ρ T) (hp : Put D w w') (hD : B.w.heap.size ≤ D) (hnT : ¬ T D) {ds : List Deferred} (hds : Marks B.w.heap.size T w' ds) : Holds B tm sf A Ds nt { a with defers := ds } w' ρ T where
  defers := hds
  size := h.size
  tmps := fun t => rel_put hp _ _ (h.tmps t)
  store := fun id sb hid => by
    obtain ⟨h1, b, h2, h3, h4⟩ := h.store id sb hid
    exact ⟨h1, b, h2, h3, relB_put hp (by rintro rfl; exact hnT h3) h4⟩
  names := fun id b hid => by rw [hp.size]; exact h.names id b hid
  inj := h.inj
  base := h.base
  full := h.full
  grow := h.grow.trans (Grow.turn hp) fun b hb e => by omega
  old := h.old
  tback := h.tback
  tkeep := h.tkeep
  fresh := h.fresh
  inv := fun g v hg => ⟨(h.inv g v hg).1, hp.cell (h.inv g v hg).2⟩
/-- The marks are come to, one after the other. -/
theorem leaves_marks {fn : Func} {R : Ending → World → Prop} {B : Base P} {tm : Nat → SV} {sf : Nat → Option SB} {A : Nat → Prop} {Ds : List Nat} {nt : Nat} {ρ : Names} {T : Nat → Prop} :
    ∀ (l : List Nat) (a : Act) (w : World), a.defers = l.map (fun D => ({ target := .collected D, args := #[] } : Deferred)) → l.Nodup → (∀ D ∈ l, B.w.heap.size ≤ D ∧ ¬ T D ∧ w.heap[D]? = some (.deferred (some []))) →
      Holds B tm sf A Ds nt a w ρ T →
      (∀ (a' : Act) (w' : World), a'.tmps = a.tmps → Holds B tm sf A Ds nt a' w' ρ T → ∃ v, (results fn a.tmps).run P w' = .ok v w' ∧ R (.returned v) w') → LeavesInM Fence.wide 0 P fn a.tmps R a.defers .returning w
  | [], a, w, hd, _, _, hh, hend => by rw [hd]; exact hend a w rfl hh
  | D :: l, a, w, hd, hnd, hall, hh, hend => by
    obtain ⟨k1, k2, k3⟩ := hall D (List.mem_cons_self ..)
    rw [List.nodup_cons] at hnd
    have hp := put_putObj (o' := .deferred none) k3 (fun _ _ _ e => by cases e)
    have hrest : ∀ D' ∈ l, B.w.heap.size ≤ D' ∧ ¬ T D' ∧ (w.putObj D (.deferred none)).heap[D']? = some (.deferred (some [])) := fun D' hD' => by
      obtain ⟨j1, j2, j3⟩ := hall D' (List.mem_cons_of_mem _ hD')
      exact ⟨j1, j2, by rw [hp.same D' (by rintro rfl; exact hnd.1 hD')]; exact j3⟩
    have hh' := hh.put hp k1 k2 (ds := l.map (fun D => ({ target := .collected D, args := #[] } : Deferred))) ⟨l, rfl, hnd.2, hrest⟩
    rw [hd]
    refine ⟨by simp, .inl ⟨D, _, rfl, run_takeDeferred k3, ?_⟩⟩
    exact leaves_marks l { a with defers := l.map (fun D => ({ target := .collected D, args := #[] } : Deferred)) } _ rfl hnd.2 hrest hh' hend
end Go.Se

