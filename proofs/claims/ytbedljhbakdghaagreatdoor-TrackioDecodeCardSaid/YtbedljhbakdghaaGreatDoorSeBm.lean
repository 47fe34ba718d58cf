/- A track's bytes: tracks as lists; a track that may be comes back. -/
import Derived.Test.YtbedljhbakdghaaGreatDoorSeDec
namespace Go.Se

def lst {α : Type} (f : Nat → α) (n : Nat) : List α := (List.range n).map f
theorem lst_len {α : Type} (f : Nat → α) (n : Nat) : (lst f n).length = n := by simp [lst]
theorem lst_getD {α : Type} {f : Nat → α} {n i : Nat} {d : α} (h : i < n) : (lst f n).getD i d = f i := by
  unfold lst; rw [List.getD_eq_getElem?_getD, List.getElem?_map, List.getElem?_range h]; rfl
theorem lst_mem {α : Type} {f : Nat → α} {n : Nat} {x : α} (h : x ∈ lst f n) : ∃ i, i < n ∧ x = f i := by
  unfold lst at h
  obtain ⟨i, h1, h2⟩ := List.mem_map.1 h
  exact ⟨i, List.mem_range.1 h1, h2.symm⟩
theorem lst_of {α : Type} (l : List α) (d : α) : lst (fun i => l.getD i d) l.length = l := by
  unfold lst
  apply List.ext_getElem?
  intro i
  rw [List.getElem?_map]
  by_cases h : i < l.length
  · rw [List.getElem?_range h, Option.map_some, List.getD_eq_getElem?_getD, List.getElem?_eq_getElem h]; rfl
  · rw [List.getElem?_eq_none (by simpa using h), List.getElem?_eq_none (by omega)]; rfl
theorem cat_lst {α : Type} (e : α → List Int) (f : Nat → α) : ∀ n, catL e (lst f n) = cat (fun i => e (f i)) n
  | 0 => rfl
  | n + 1 => by
    have : lst f (n + 1) = lst f n ++ [f n] := by unfold lst; rw [List.range_succ, List.map_append]; rfl
    rw [this, catL_append, cat_lst e f n]
    simp [catL, cat]
/-- A track, as lists. -/
def toTL (t : Trk) : TL := ⟨t.rate, t.cell, t.cols, t.rows, (t.cx, t.cy), lst t.h t.nh, lst t.g t.ng, lst (fun i => (t.kg i, t.kd i, t.ko i)) t.nk, lst (fun i => (t.lx i, t.ly i)) t.nl,
  lst (fun i => lst (fun k => (t.rx i k, t.ry i k)) (t.rn i)) t.nr, lst (fun i => (t.ax i, t.ay i, t.bx i, t.sb i, t.sp i)) t.nt, (t.sx, t.sy), t.head, t.laps⟩
theorem toTL_trk (t : TL) : toTL t.trk = t := by
  obtain ⟨a, b, c, d, e, h, g, k, l, r, q, s, u, v⟩ := t
  have e1 : lst (TL.trk ⟨a, b, c, d, e, h, g, k, l, r, q, s, u, v⟩).h h.length = h := lst_of h 0
  have e2 : lst (TL.trk ⟨a, b, c, d, e, h, g, k, l, r, q, s, u, v⟩).g g.length = g := lst_of g 0
  have e3 : lst (fun i => ((k.getD i (0, 0, false)).1, (k.getD i (0, 0, false)).2.1, (k.getD i (0, 0, false)).2.2)) k.length = k := lst_of k (0, 0, false)
  have e4 : lst (fun i => ((l.getD i (0, 0)).1, (l.getD i (0, 0)).2)) l.length = l := lst_of l (0, 0)
  have e5 : lst (fun i => lst (fun k => (((r.getD i []).getD k (0, 0)).1, ((r.getD i []).getD k (0, 0)).2)) (r.getD i []).length) r.length = r := by
    have : (fun i => lst (fun k => (((r.getD i []).getD k (0, 0)).1, ((r.getD i []).getD k (0, 0)).2)) (r.getD i []).length) = fun i => r.getD i [] := funext fun i => lst_of (r.getD i []) (0, 0)
    rw [this]; exact lst_of r []
  have e6 : lst (fun i => ((q.getD i (0, 0, 0, 0, false)).1, (q.getD i (0, 0, 0, 0, false)).2.1, (q.getD i (0, 0, 0, 0, false)).2.2.1, (q.getD i (0, 0, 0, 0, false)).2.2.2.1, (q.getD i (0, 0, 0, 0, false)).2.2.2.2)) q.length = q := lst_of q (0, 0, 0, 0, false)
  show TL.mk a b c d (e.1, e.2) _ _ _ _ _ _ (s.1, s.2) u v = TL.mk a b c d e h g k l r q s u v
  congr 1
/-- A track's bytes (head is not turned). -/
def trkB (t : Trk) : List Int := [67, 72, 84, 82] ++ le 2 (wd t.rate) ++ le 8 (wd t.cell) ++ le 2 (wd t.cols) ++ le 2 (wd t.rows) ++ ptB t.cx t.cy ++ cat (fun i => le 8 (wd (t.h i))) t.nh ++ cat (fun i => le 2 (wd (t.g i))) t.ng ++ le 2 (wd (t.nk : Int)) ++ cat (fun i => kindB (t.kg i) (t.kd i) (t.ko i)) t.nk ++ le 2 (wd (t.nl : Int)) ++ cat (fun i => ptB (t.lx i) (t.ly i)) t.nl ++ le 2 (wd (t.nr : Int)) ++ cat (fun i => le 2 (wd (t.rn i : Int)) ++ cat (fun k => ptB (t.rx i k) (t.ry i k)) (t.rn i)) t.nr ++ le 2 (wd (t.nt : Int)) ++ cat (fun i => gateB (t.ax i) (t.ay i) (t.bx i) (t.sb i) (t.sp i)) t.nt ++ ptB t.sx t.sy ++ le 8 (wd (IntKind.i64.wrap t.head)) ++ le 2 (wd t.laps)
theorem trkB_TL {t : Trk} (h : 0 ≤ t.head ∧ t.head ≤ 4294967295) : trkB t = tlB (toTL t) := by
  unfold trkB tlB
  have e : IntKind.i64.wrap t.head = t.head := by rw [IntKind.wrap_i64]; omega
  simp only [toTL, cat_lst, lst_len, e, List.append_assoc]
theorem fstW_none {c : Nat → Int} : ∀ {f i : Nat}, (fstW c f i).1 = 0 → ∀ j, i ≤ j → j < i + f → c j = 0
  | 0, i, _, j, h1, h2 => by omega
  | f + 1, i, h, j, h1, h2 => by
    unfold fstW at h
    cases e : c i != 0 with
    | true =>
      rw [e] at h
      simp only [cond_true] at h
      rw [h] at e; exact absurd e (by decide)
    | false =>
      rw [e] at h
      rcases Nat.eq_or_lt_of_le h1 with rfl | h3
      · exact bne_eq_false_iff_eq.1 e
      · exact fstW_none h j h3 (by omega)
/-- Numbers in a track are such as there are. -/
structure trkIn (t : Trk) : Prop where
  cell : inI64 t.cell
  corner : inI64 t.cx ∧ inI64 t.cy
  h : ∀ i, i < t.nh → inI64 (t.h i)
  k : ∀ i, i < t.nk → inI64 (t.kg i) ∧ inI64 (t.kd i)
  l : ∀ i, i < t.nl → inI64 (t.lx i) ∧ inI64 (t.ly i)
  r : ∀ i, i < t.nr → ∀ k, k < t.rn i → inI64 (t.rx i k) ∧ inI64 (t.ry i k)
  g : ∀ i, i < t.nt → inI64 (t.ax i) ∧ inI64 (t.ay i) ∧ inI64 (t.bx i) ∧ inI64 (t.sb i)
  s : inI64 t.sx ∧ inI64 t.sy
  head : 0 ≤ t.head ∧ t.head ≤ 4294967295
theorem tlOk_of {t : Trk} (h : (rightV t).1 = 0) (hi : trkIn t) : tlOk (toTL t) := by
  obtain ⟨g0, h⟩ := orV_zero h
  obtain ⟨r0, h⟩ := orV_zero h
  obtain ⟨t0, s0⟩ := orV_zero h
  simp only at g0
  unfold groundV at g0
  cases c1 : rateB t with
  | false => rw [c1] at g0; exact absurd g0 (show ¬ (40 : Int) = 0 by decide)
  | true =>
  rw [c1] at g0
  simp only [Bool.not_true, cond_false] at g0
  cases c2 : fieldV t != 0 with
  | true =>
    rw [c2] at g0
    simp only [cond_true] at g0
    rw [g0] at c2; exact absurd c2 (by decide)
  | false =>
  rw [c2] at g0
  simp only [cond_false] at g0
  cases c3 : lineV t.nl t.lx t.ly != 0 with
  | true =>
    rw [c3] at g0
    simp only [cond_true] at g0
    rw [g0] at c3; exact absurd c3 (by decide)
  | false =>
  have f0 := bne_eq_false_iff_eq.1 c2
  have l0 := bne_eq_false_iff_eq.1 c3
  unfold fieldV at f0
  cases c4 : countedB t.cols t.rows t.nh t.ng t.nk with
  | false => rw [c4] at f0; exact absurd f0 (show ¬ (42 : Int) = 0 by decide)
  | true =>
  rw [c4] at f0
  simp only [cond_true] at f0
  cases c5 : fieldBad t with
  | true => rw [c5] at f0; exact absurd f0 (show ¬ (40 : Int) = 0 by decide)
  | false =>
  obtain ⟨⟨k1, k2, k3⟩, n1, n2, n3, n4, n5⟩ := counted_facts c4
  unfold fieldBad at c5
  simp only [Bool.or_eq_false_iff] at c5
  obtain ⟨_, _, _, _, _, c6, _⟩ := c5
  have hg := anyB_false.1 c6
  unfold rateB at c1
  simp only [Bool.and_eq_true, decide_eq_true_eq] at c1
  unfold lineV at l0
  have hl : 3 ≤ t.nl ∧ t.nl ≤ 64 := by
    cases d1 : decide ((t.nl : Int) < 3) with
    | true => rw [d1] at l0; exact absurd l0 (show ¬ (42 : Int) = 0 by decide)
    | false =>
      rw [d1] at l0
      cases d2 : decide ((t.nl : Int) > 64) with
      | true => rw [d2] at l0; exact absurd l0 (show ¬ (42 : Int) = 0 by decide)
      | false => have := of_decide_eq_false d1; have := of_decide_eq_false d2; omega
  unfold railsV at r0
  have hr : t.nr ≤ 16 ∧ ∀ i, i < t.nr → railV t i = 0 := by
    cases d1 : decide ((t.nr : Int) > 16) with
    | true => rw [d1] at r0; exact absurd r0 (show ¬ (42 : Int) = 0 by decide)
    | false =>
      rw [d1] at r0
      have := of_decide_eq_false d1
      exact ⟨by omega, fun i hi => fstW_none r0 i (Nat.zero_le _) (by omega)⟩
  have hrn : ∀ i, i < t.nr → 2 ≤ t.rn i ∧ t.rn i ≤ 64 := fun i hi => by
    have e := hr.2 i hi
    unfold railV at e
    cases d1 : (decide ((2 : Int) ≤ t.rn i) && decide ((t.rn i : Int) ≤ 64)) with
    | false => rw [d1] at e; exact absurd e (show ¬ (42 : Int) = 0 by decide)
    | true =>
      simp only [Bool.and_eq_true, decide_eq_true_eq] at d1
      omega
  unfold gatesV at t0
  have ht : 1 ≤ t.nt ∧ t.nt ≤ 16 := by
    cases d1 : (decide ((1 : Int) ≤ t.nt) && decide ((t.nt : Int) ≤ 16)) with
    | false => rw [d1] at t0; exact absurd t0 (show ¬ (42 : Int) = 0 by decide)
    | true =>
      simp only [Bool.and_eq_true, decide_eq_true_eq] at d1
      omega
  have hlp : 1 ≤ t.laps ∧ t.laps ≤ 100 := by
    unfold startV at s0
    cases d1 : outB t with
    | true => rw [d1] at s0; exact absurd s0 (show ¬ (40 : Int) = 0 by decide)
    | false =>
      rw [d1] at s0
      cases d2 : nearAny t with
      | true => rw [d2] at s0; exact absurd s0 (show ¬ (43 : Int) = 0 by decide)
      | false =>
        rw [d2] at s0
        cases d3 : lapsB t with
        | false => rw [d3] at s0; exact absurd s0 (show ¬ (40 : Int) = 0 by decide)
        | true =>
          unfold lapsB at d3
          simp only [Bool.and_eq_true, decide_eq_true_eq] at d3
          exact d3
  have w : ∀ x : Int, -10000 ≤ x → x ≤ 10000 → IntKind.i64.wrap x = x := fun x _ _ => by rw [IntKind.wrap_i64]; omega
  have m1 := mulB (a := t.cols + 1) (b := t.rows + 1) (N := 65) (M := 65) (by omega) (by omega) (by omega) (by omega)
  have m2 := mulB (a := t.cols) (b := t.rows) (N := 64) (M := 64) (by omega) (by omega) (by omega) (by omega)
  exact {
    rate := c1
    cell := hi.cell
    cols := k1
    rows := k2
    corner := hi.corner
    nh := by
      show (nHs t.cols t.rows).toNat = (lst t.h t.nh).length
      unfold nHs
      rw [w (t.cols + 1) (by omega) (by omega), w (t.rows + 1) (by omega) (by omega), w _ (by omega) (by omega), lst_len]; omega
    heights := fun x hx => by
      obtain ⟨i, h1, rfl⟩ := lst_mem hx
      exact hi.h i h1
    ng := by
      show (nGs t.cols t.rows).toNat = (lst t.g t.ng).length
      unfold nGs
      rw [w _ (by omega) (by omega), lst_len]; omega
    ground := fun x hx => by
      obtain ⟨i, h1, rfl⟩ := lst_mem hx
      have := hg i h1
      unfold noneP at this
      simp only [Bool.or_eq_false_iff, decide_eq_false_iff_not] at this
      omega
    kinds := ⟨by show 1 ≤ ((lst _ t.nk).length : Int); rw [lst_len]; omega, by show ((lst _ t.nk).length : Int) ≤ 8; rw [lst_len]; omega, fun x hx => by
      obtain ⟨i, h1, rfl⟩ := lst_mem hx
      exact hi.k i h1⟩
    line := ⟨by show 3 ≤ ((lst _ t.nl).length : Int); rw [lst_len]; omega, by show ((lst _ t.nl).length : Int) ≤ 64; rw [lst_len]; omega, fun x hx => by
      obtain ⟨i, h1, rfl⟩ := lst_mem hx
      exact hi.l i h1⟩
    rails := ⟨by show 0 ≤ ((lst _ t.nr).length : Int); rw [lst_len]; omega, by show ((lst _ t.nr).length : Int) ≤ 16; rw [lst_len]; omega, fun x hx => by
      obtain ⟨i, h1, rfl⟩ := lst_mem hx
      have := hrn i h1
      exact ⟨by rw [lst_len]; omega, by rw [lst_len]; omega, fun c hc => by
        obtain ⟨k, h2, rfl⟩ := lst_mem hc
        exact hi.r i h1 k h2⟩⟩
    gates := ⟨by show 1 ≤ ((lst _ t.nt).length : Int); rw [lst_len]; omega, by show ((lst _ t.nt).length : Int) ≤ 16; rw [lst_len]; omega, fun x hx => by
      obtain ⟨i, h1, rfl⟩ := lst_mem hx
      exact hi.g i h1⟩
    start := hi.s
    head := hi.head
    laps := hlp }
/-- Tracks that are the same are as right. -/
theorem dec_back {t : Trk} (h : (rightV t).1 = 0) (hr : (rightV (toTL t).trk).1 = 0) (hi : trkIn t) : decO (trkB t) = (toTL t, 0, 0) := by
  have ho := tlOk_of h hi
  obtain ⟨l, e⟩ := body_there (toTL t) ho
  rw [trkB_TL hi.head]
  have e2 : endR (tlB (toTL t)) ⟨((tlB (toTL t)).length : Int), l, 0, 0⟩ = ((0, 0), ⟨((tlB (toTL t)).length : Int), l, 0, 0⟩) := by
    unfold endR
    simp only
    rw [decide_eq_false (by omega)]
    rfl
  rw [decO_eq e e2]
  simp only
  rw [hr]
  rfl
end Go.Se

/- A track told by another one that is the same. -/
namespace Go.Se
theorem ro_congr2 {ρ : Names} {T : Nat → Prop} {w : World} {n m st : Nat} {g g' : Nat → List SV} (hn : n = m) (h : ∀ i, i < n → ∀ b o, relAt T w (g i) b o → relAt T w (g' i) b o) {v : Value} (hv : rel ρ T w (.ro n st g) v) : rel ρ T w (.ro m st g') v := by
  subst hn
  obtain ⟨a, c, h1, h2, h3⟩ := hv
  refine ⟨a, c, h1, h2, fun hl => ?_⟩
  obtain ⟨b, off, h4, hb, h5, h6⟩ := h3 hl
  exact ⟨b, off, h4, hb, h5, fun i hi => h i hi _ _ (h6 i hi)⟩
theorem ro_eq {ρ : Names} {T : Nat → Prop} {w : World} {n m st : Nat} {g g' : Nat → List SV} (hn : n = m) (h : ∀ i, i < n → g i = g' i) {v : Value} (hv : rel ρ T w (.ro n st g) v) : rel ρ T w (.ro m st g') v :=
  ro_congr2 hn (fun i hi _ _ hr => by rw [← h i hi]; exact hr) hv
end Go.Se

/- A track's bytes: bounds. -/
namespace Go.Se

/-- Where a reader is, all of it. -/
def rdIn (B : List Int) (s : Rs) : Prop := rdOk B s ∧ (0 ≤ s.last ∧ s.last ≤ (B.length : Int)) ∧ 0 ≤ s.place ∧ s.place ≤ (B.length : Int)
def Keeps {α : Type} (rd : List Int → Rs → α × Rs) : Prop := ∀ B s, rdIn B s → rdIn B (rd B s).2
theorem body_chain {B : List Int} {s s' : Rs} {t : TL} (h : bodyR B s = (t, s')) : ∃ a0 s0 s1 s2 s3 s4 s5 s6 s7 s8 s9 t1 t2 t3 t4, markR [67, 72, 84, 82] B s = (a0, s0) ∧ countR 60 1024 B s0 = (t.rate, s1) ∧ numR B s1 = (t.cell, s2) ∧ countR 1 64 B s2 = (t.cols, s3) ∧ countR 1 64 B s3 = (t.rows, s4) ∧ placeR B s4 = (t.corner, s5) ∧
    takeR numR (nHs t.cols t.rows).toNat B s5 = (t.heights, s6) ∧ takeR (countR 0 7) (nGs t.cols t.rows).toNat B s6 = (t.ground, s7) ∧ manyR 1 8 kindR B s7 = (t.kinds, s8) ∧ manyR 3 64 placeR B s8 = (t.line, s9) ∧ manyR 0 16 railR B s9 = (t.rails, t1) ∧ manyR 1 16 gateR B t1 = (t.gates, t2) ∧ placeR B t2 = (t.start, t3) ∧ headR B t3 = (t.head, t4) ∧ countR 1 100 B t4 = (t.laps, s') := by
  unfold bodyR at h
  generalize x0 : markR [67, 72, 84, 82] B s = v0 at h
  obtain ⟨a0, s0⟩ := v0
  simp only at h
  generalize x1 : countR 60 1024 B s0 = v1 at h
  obtain ⟨a1, s1⟩ := v1
  simp only at h
  generalize x2 : numR B s1 = v2 at h
  obtain ⟨a2, s2⟩ := v2
  simp only at h
  generalize x3 : countR 1 64 B s2 = v3 at h
  obtain ⟨a3, s3⟩ := v3
  simp only at h
  generalize x4 : countR 1 64 B s3 = v4 at h
  obtain ⟨a4, s4⟩ := v4
  simp only at h
  generalize x5 : placeR B s4 = v5 at h
  obtain ⟨a5, s5⟩ := v5
  simp only at h
  generalize x6 : takeR numR (nHs a3 a4).toNat B s5 = v6 at h
  obtain ⟨a6, s6⟩ := v6
  simp only at h
  generalize x7 : takeR (countR 0 7) (nGs a3 a4).toNat B s6 = v7 at h
  obtain ⟨a7, s7⟩ := v7
  simp only at h
  generalize x8 : manyR 1 8 kindR B s7 = v8 at h
  obtain ⟨a8, s8⟩ := v8
  simp only at h
  generalize x9 : manyR 3 64 placeR B s8 = v9 at h
  obtain ⟨a9, s9⟩ := v9
  simp only at h
  generalize y1 : manyR 0 16 railR B s9 = w1 at h
  obtain ⟨b1, t1⟩ := w1
  simp only at h
  generalize y2 : manyR 1 16 gateR B t1 = w2 at h
  obtain ⟨b2, t2⟩ := w2
  simp only at h
  generalize y3 : placeR B t2 = w3 at h
  obtain ⟨b3, t3⟩ := w3
  simp only at h
  generalize y4 : headR B t3 = w4 at h
  obtain ⟨b4, t4⟩ := w4
  simp only at h
  generalize y5 : countR 1 100 B t4 = w5 at h
  obtain ⟨b5, t5⟩ := w5
  simp only at h
  cases h
  exact ⟨a0, s0, s1, s2, s3, s4, s5, s6, s7, s8, s9, t1, t2, t3, t4, rfl, x1, x2, x3, x4, x5, x6, x7, x8, x9, y1, y2, y3, y4, y5⟩
theorem trk_head (t : TL) : t.trk.head = t.head := rfl
theorem head_in (B : List Int) (s : Rs) : 0 ≤ (headR B s).1 ∧ (headR B s).1 ≤ 4294967295 := by
  unfold headR; simp only
  cases c : decide ((numR B s).1 < 0) || decide ((numR B s).1 > 4294967295) with
  | true =>
    show 0 ≤ IntKind.u32.wrap _ ∧ IntKind.u32.wrap _ ≤ 4294967295
    rw [wu32]; omega
  | false =>
    simp only [Bool.or_eq_false_iff, decide_eq_false_iff_not] at c
    show 0 ≤ (numR B s).1 ∧ (numR B s).1 ≤ 4294967295
    omega
def railsOk (l : List (List (Int × Int))) : Prop := l.length ≤ 20 ∧ ∀ i, i < l.length → rlen (listG raL [] l i) ≤ 100
/-- What bytes are, told. -/
def IsD (B : List Int) (t : Trk) (e a : Int) : Prop := ∃ tl, decO B = (tl, e, a) ∧ t = tl.trk
theorem callOK_bytes {P : Program} {k : FuncId} {v : SV} {σ' : List (Option SB)} {d : List Nat} (h : ∀ B : List Int, CallOK P k [.ro B.length 1 (bG B)] [] v σ' d) (n : Nat) (x : Nat → Int) : CallOK P k [.ro n 1 (fun i => [.int .u8 (x i)])] [] v σ' d := by
  have := h (lst x n)
  rw [lst_len] at this
  exact callOK_ro1 (fun i hi => by show [SV.int .u8 (x i)] = bG (lst x n) i; unfold bG; rw [lst_getD hi]) this
end Go.Se

/- The reference's reader: plain. -/
namespace Go.Se
theorem xword_law {k : Nat} {kI : Int} (hkI : kI = k) {B : List Int} {s : Rs} (hs : rdOk B s) (hn : B.length < 9223372036854775808) (hk8 : k ≤ 8) {X N1 N2 Y : Prop}
    (h1 : wordR B k s = (none, s) → X) (h2 : wordR B k s = (none, ⟨s.pos, s.last, 20, B.length⟩) → N1)
    (h3 : s.err = 0 → IntKind.i64.wrap (s.pos + kI) = s.pos + kI → (IntKind.i64.wrap (s.pos + kI)).toNat - s.pos.toNat = k → s.pos.toNat + k ≤ B.length → wordR B k s = (some ((B.drop s.pos.toNat).take k), ⟨s.pos + kI, s.pos, s.err, s.place⟩) → Y) :
    Br (s.err != 0) X (Br (decide (IntKind.i64.wrap ((B.length : Int) - s.pos) < kI)) (Br (s.err == 0) N1 N2)
      (Br (decide (0 ≤ s.pos) && (decide (s.pos ≤ IntKind.i64.wrap (s.pos + kI)) && decide (IntKind.i64.wrap (s.pos + kI) ≤ (B.length : Int)))) Y False)) := by
  subst hkI
  obtain ⟨hp1, hp2⟩ := hs
  have hw1 : IntKind.i64.wrap ((B.length : Int) - s.pos) = (B.length : Int) - s.pos := by rw [IntKind.wrap_i64]; omega
  rw [hw1]
  rcases wordR_cases B k s with ⟨e0, e⟩ | ⟨e0, e1, e⟩ | ⟨e0, e1, e⟩
  · rw [show (s.err != 0) = true from bne_iff_ne.2 e0]; exact h1 e
  · rw [show (s.err != 0) = false by rw [e0]; rfl, show decide ((B.length : Int) - s.pos < k) = true from decide_eq_true (by omega), show (s.err == 0) = true by rw [e0]; rfl]; exact h2 e
  · have hw : IntKind.i64.wrap (s.pos + k) = s.pos + k := by rw [IntKind.wrap_i64]; omega
    have hY := h3 e0 hw (by rw [hw]; omega) (by omega) e
    have hc : (decide (0 ≤ s.pos) && (decide (s.pos ≤ IntKind.i64.wrap (s.pos + k)) && decide (IntKind.i64.wrap (s.pos + k) ≤ (B.length : Int)))) = true := by
      rw [hw]; simp only [Bool.and_eq_true, decide_eq_true_eq]; omega
    rw [show (s.err != 0) = false by rw [e0]; rfl, show decide ((B.length : Int) - s.pos < k) = false from decide_eq_false (by omega), hc]
    exact hY
theorem take_cons {B : List Int} {p n : Nat} (h : p < B.length) : (B.drop p).take (n + 1) = B.getD p 0 :: (B.drop (p + 1)).take n := by
  rw [List.drop_eq_getElem_cons h, List.take_succ_cons, List.getD_eq_getElem?_getD, List.getElem?_eq_getElem h]; rfl
theorem take_two {B : List Int} {p : Nat} (h : p + 2 ≤ B.length) : (B.drop p).take 2 = [B.getD (0 + p) 0, B.getD (1 + p) 0] := by
  rw [take_cons (by omega), take_cons (by omega), List.take_zero, Nat.zero_add, Nat.add_comm 1 p]
theorem take_eight {B : List Int} {p : Nat} (h : p + 8 ≤ B.length) : (B.drop p).take 8 = [B.getD (0 + p) 0, B.getD (1 + p) 0, B.getD (2 + p) 0, B.getD (3 + p) 0, B.getD (4 + p) 0, B.getD (5 + p) 0, B.getD (6 + p) 0, B.getD (7 + p) 0] := by
  rw [take_cons (by omega), take_cons (by omega), take_cons (by omega), take_cons (by omega), take_cons (by omega), take_cons (by omega), take_cons (by omega), take_cons (by omega), List.take_zero]
  rw [Nat.zero_add, Nat.add_comm 1 p, Nat.add_comm 2 p, Nat.add_comm 3 p, Nat.add_comm 4 p, Nat.add_comm 5 p, Nat.add_comm 6 p, Nat.add_comm 7 p]
theorem byte_inj {a b : Int} (ha : 0 ≤ a ∧ a < 256) (hb : 0 ≤ b ∧ b < 256) (h : UInt8.ofNat a.toNat = UInt8.ofNat b.toNat) : a = b := by
  have := congrArg UInt8.toNat h
  simp only [UInt8.toNat_ofNat'] at this
  omega
theorem bytes_inj : ∀ {L M : List Int}, bytesOk L → bytesOk M → (L.map fun n => UInt8.ofNat n.toNat) = (M.map fun n => UInt8.ofNat n.toNat) → L = M
  | [], [], _, _, _ => rfl
  | [], _ :: _, _, _, h => by cases h
  | _ :: _, [], _, _, h => by cases h
  | a :: L, b :: M, h1, h2, h => by
    simp only [List.map_cons, List.cons.injEq] at h
    rw [byte_inj (h1 a (by simp)) (h2 b (by simp)) h.1, bytes_inj (fun c hc => h1 c (List.mem_cons_of_mem _ hc)) (fun c hc => h2 c (List.mem_cons_of_mem _ hc)) h.2]
theorem bytesOf_beq {L M : List Int} (h1 : bytesOk L) (h2 : bytesOk M) : (bytesOf L == bytesOf M) = (L == M) := by
  rw [show (bytesOf L == bytesOf M) = ((bytesOf L).data == (bytesOf M).data) from rfl, Bool.eq_iff_iff, beq_iff_eq, beq_iff_eq]
  constructor
  · intro h
    refine bytes_inj h1 h2 ?_
    have := congrArg Array.toList h
    simpa [bytesOf] using this
  · intro h; rw [h]
theorem num_words {b0 b1 b2 b3 b4 b5 b6 b7 : Int} (h0 : 0 ≤ b0 ∧ b0 < 256) (h1 : 0 ≤ b1 ∧ b1 < 256) (h2 : 0 ≤ b2 ∧ b2 < 256) (h3 : 0 ≤ b3 ∧ b3 < 256) (h4 : 0 ≤ b4 ∧ b4 < 256) (h5 : 0 ≤ b5 ∧ b5 < 256) (h6 : 0 ≤ b6 ∧ b6 < 256) (h7 : 0 ≤ b7 ∧ b7 < 256) :
    IntKind.u64.wrap (IntKind.u64.wrap (IntKind.u64.wrap (IntKind.u64.wrap (IntKind.u64.wrap (IntKind.u64.wrap (IntKind.u64.wrap (IntKind.u64.wrap (IntKind.u64.wrap (IntKind.u64.wrap (IntKind.u64.wrap (IntKind.u64.wrap (IntKind.u64.wrap (IntKind.u64.wrap (IntKind.u64.wrap (0 + IntKind.u64.wrap b7) * 256) + IntKind.u64.wrap b6) * 256) + IntKind.u64.wrap b5) * 256) + IntKind.u64.wrap b4) * 256) + IntKind.u64.wrap b3) * 256) + IntKind.u64.wrap b2) * 256) + IntKind.u64.wrap b1) * 256) + IntKind.u64.wrap b0) =
      unle [b0, b1, b2, b3, b4, b5, b6, b7] := by
  have k : ∀ x : Int, 0 ≤ x → x < 18446744073709551616 → IntKind.u64.wrap x = x := fun x h h' => by rw [wu64]; omega
  rw [k b0 (by omega) (by omega), k b1 (by omega) (by omega), k b2 (by omega) (by omega), k b3 (by omega) (by omega), k b4 (by omega) (by omega), k b5 (by omega) (by omega), k b6 (by omega) (by omega), k b7 (by omega) (by omega)]
  rw [k (0 + b7) (by omega) (by omega), k ((0 + b7) * 256) (by omega) (by omega), k ((0 + b7) * 256 + b6) (by omega) (by omega), k (((0 + b7) * 256 + b6) * 256) (by omega) (by omega), k (((0 + b7) * 256 + b6) * 256 + b5) (by omega) (by omega)]
  rw [k ((((0 + b7) * 256 + b6) * 256 + b5) * 256) (by omega) (by omega), k ((((0 + b7) * 256 + b6) * 256 + b5) * 256 + b4) (by omega) (by omega), k (((((0 + b7) * 256 + b6) * 256 + b5) * 256 + b4) * 256) (by omega) (by omega), k (((((0 + b7) * 256 + b6) * 256 + b5) * 256 + b4) * 256 + b3) (by omega) (by omega)]
  rw [k ((((((0 + b7) * 256 + b6) * 256 + b5) * 256 + b4) * 256 + b3) * 256) (by omega) (by omega), k ((((((0 + b7) * 256 + b6) * 256 + b5) * 256 + b4) * 256 + b3) * 256 + b2) (by omega) (by omega), k (((((((0 + b7) * 256 + b6) * 256 + b5) * 256 + b4) * 256 + b3) * 256 + b2) * 256) (by omega) (by omega), k (((((((0 + b7) * 256 + b6) * 256 + b5) * 256 + b4) * 256 + b3) * 256 + b2) * 256 + b1) (by omega) (by omega)]
  rw [k ((((((((0 + b7) * 256 + b6) * 256 + b5) * 256 + b4) * 256 + b3) * 256 + b2) * 256 + b1) * 256) (by omega) (by omega), k _ (by omega) (by omega)]
  simp only [unle]; omega
end Go.Se

