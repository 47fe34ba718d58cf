/- A track's bytes: tracks as lists; a track that may be comes back. -/
import Derived.Test.YtbedljhbakdghaaGreatDoorSeDec
namespace Go.Se

def lst {α : Type} (f : Nat → α) (n : Nat) : List α := (List.range n).map f
theorem lst_len {α : Type} (f : Nat → α) (n : Nat) : (lst f n).length = n := by simp [lst]
theorem lst_getD {α : Type} {f : Nat → α} {n i : Nat} {d : α} (h : i < n) : (lst f n).getD i d = f i := by
  unfold lst; rw [List.getD_eq_getElem?_getD, List.getElem?_map, List.getElem?_range h]; rfl
theorem lst_mem {α : Type} {f : Nat → α} {n : Nat} {x : α} (h : x ∈ lst f n) : ∃ i, i < n ∧ x = f i := by
  unfold lst at h
  obtain ⟨i, h1, h2⟩ := List.mem_map.1 h
  exact ⟨i, List.mem_range.1 h1, h2.symm⟩
theorem lst_of {α : Type} (l : List α) (d : α) : lst (fun i => l.getD i d) l.length = l := by
  unfold lst
  apply List.ext_getElem?
  intro i
  rw [List.getElem?_map]
  by_cases h : i < l.length
  · rw [List.getElem?_range h, Option.map_some, List.getD_eq_getElem?_getD, List.getElem?_eq_getElem h]; rfl
  · rw [List.getElem?_eq_none (by simpa using h), List.getElem?_eq_none (by omega)]; rfl
theorem cat_lst {α : Type} (e : α → List Int) (f : Nat → α) : ∀ n, catL e (lst f n) = cat (fun i => e (f i)) n
  | 0 => rfl
  | n + 1 => by
    have : lst f (n + 1) = lst f n ++ [f n] := by unfold lst; rw [List.range_succ, List.map_append]; rfl
    rw [this, catL_append, cat_lst e f n]
    simp [catL, cat]
/-- A track, as lists. -/
def toTL (t : Trk) : TL := ⟨t.rate, t.cell, t.cols, t.rows, (t.cx, t.cy), lst t.h t.nh, lst t.g t.ng, lst (fun i => (t.kg i, t.kd i, t.ko i)) t.nk, lst (fun i => (t.lx i, t.ly i)) t.nl,
  lst (fun i => lst (fun k => (t.rx i k, t.ry i k)) (t.rn i)) t.nr, lst (fun i => (t.ax i, t.ay i, t.bx i, t.sb i, t.sp i)) t.nt, (t.sx, t.sy), t.head, t.laps⟩
theorem toTL_trk (t : TL) : toTL t.trk = t := by
  obtain ⟨a, b, c, d, e, h, g, k, l, r, q, s, u, v⟩ := t
  have e1 : lst (TL.trk ⟨a, b, c, d, e, h, g, k, l, r, q, s, u, v⟩).h h.length = h := lst_of h 0
  have e2 : lst (TL.trk ⟨a, b, c, d, e, h, g, k, l, r, q, s, u, v⟩).g g.length = g := lst_of g 0
  have e3 : lst (fun i => ((k.getD i (0, 0, false)).1, (k.getD i (0, 0, false)).2.1, (k.getD i (0, 0, false)).2.2)) k.length = k := lst_of k (0, 0, false)
  have e4 : lst (fun i => ((l.getD i (0, 0)).1, (l.getD i (0, 0)).2)) l.length = l := lst_of l (0, 0)
  have e5 : lst (fun i => lst (fun k => (((r.getD i []).getD k (0, 0)).1, ((r.getD i []).getD k (0, 0)).2)) (r.getD i []).length) r.length = r := by
    have : (fun i => lst (fun k => (((r.getD i []).getD k (0, 0)).1, ((r.getD i []).getD k (0, 0)).2)) (r.getD i []).length) = fun i => r.getD i [] := funext fun i => lst_of (r.getD i []) (0, 0)
    rw [this]; exact lst_of r []
  have e6 : lst (fun i => ((q.getD i (0, 0, 0, 0, false)).1, (q.getD i (0, 0, 0, 0, false)).2.1, (q.getD i (0, 0, 0, 0, false)).2.2.1, (q.getD i (0, 0, 0, 0, false)).2.2.2.1, (q.getD i (0, 0, 0, 0, false)).2.2.2.2)) q.length = q := lst_of q (0, 0, 0, 0, false)
  show TL.mk a b c d (e.1, e.2) _ _ _ _ _ _ (s.1, s.2) u v = TL.mk a b c d e h g k l r q s u v
  congr 1
theorem toTL_same (t : Trk) : sameT t (toTL t).trk := by
  refine ⟨⟨rfl, rfl, rfl, rfl, rfl, rfl, (lst_len _ _).symm, (lst_len _ _).symm, (lst_len _ _).symm⟩, fun i hi => (lst_getD (d := 0) hi).symm, fun i hi => (lst_getD (d := 0) hi).symm, fun i hi => ?_, ⟨(lst_len _ _).symm, fun i hi => ?_⟩, ⟨(lst_len _ _).symm, fun i hi => ?_⟩, ⟨(lst_len _ _).symm, fun i hi => ?_⟩, rfl, rfl, rfl, rfl⟩
  · have e : (lst (fun i => (t.kg i, t.kd i, t.ko i)) t.nk).getD i (0, 0, false) = (t.kg i, t.kd i, t.ko i) := lst_getD hi
    exact ⟨(congrArg (fun x => x.1) e).symm, (congrArg (fun x => x.2.1) e).symm, (congrArg (fun x => x.2.2) e).symm⟩
  · have e : (lst (fun i => (t.lx i, t.ly i)) t.nl).getD i (0, 0) = (t.lx i, t.ly i) := lst_getD hi
    exact ⟨(congrArg (fun x => x.1) e).symm, (congrArg (fun x => x.2) e).symm⟩
  · have e : (lst (fun i => lst (fun k => (t.rx i k, t.ry i k)) (t.rn i)) t.nr).getD i [] = lst (fun k => (t.rx i k, t.ry i k)) (t.rn i) := lst_getD hi
    have e1 : (toTL t).trk.rn i = t.rn i := (congrArg List.length e).trans (lst_len _ _)
    refine ⟨e1.symm, fun k hk => ?_⟩
    have e2 : ((lst (fun i => lst (fun k => (t.rx i k, t.ry i k)) (t.rn i)) t.nr).getD i []).getD k (0, 0) = (t.rx i k, t.ry i k) := by rw [e]; exact lst_getD hk
    exact ⟨(congrArg (fun x => x.1) e2).symm, (congrArg (fun x => x.2) e2).symm⟩
  · have e : (lst (fun i => (t.ax i, t.ay i, t.bx i, t.sb i, t.sp i)) t.nt).getD i (0, 0, 0, 0, false) = (t.ax i, t.ay i, t.bx i, t.sb i, t.sp i) := lst_getD hi
    exact ⟨(congrArg (fun x => x.1) e).symm, (congrArg (fun x => x.2.1) e).symm, (congrArg (fun x => x.2.2.1) e).symm, (congrArg (fun x => x.2.2.2.1) e).symm, (congrArg (fun x => x.2.2.2.2) e).symm⟩
/-- A track's bytes (head is not turned). -/
def trkB (t : Trk) : List Int := [67, 72, 84, 82] ++ le 2 (wd t.rate) ++ le 8 (wd t.cell) ++ le 2 (wd t.cols) ++ le 2 (wd t.rows) ++ ptB t.cx t.cy ++ cat (fun i => le 8 (wd (t.h i))) t.nh ++ cat (fun i => le 2 (wd (t.g i))) t.ng ++ le 2 (wd (t.nk : Int)) ++ cat (fun i => kindB (t.kg i) (t.kd i) (t.ko i)) t.nk ++ le 2 (wd (t.nl : Int)) ++ cat (fun i => ptB (t.lx i) (t.ly i)) t.nl ++ le 2 (wd (t.nr : Int)) ++ cat (fun i => le 2 (wd (t.rn i : Int)) ++ cat (fun k => ptB (t.rx i k) (t.ry i k)) (t.rn i)) t.nr ++ le 2 (wd (t.nt : Int)) ++ cat (fun i => gateB (t.ax i) (t.ay i) (t.bx i) (t.sb i) (t.sp i)) t.nt ++ ptB t.sx t.sy ++ le 8 (wd (IntKind.i64.wrap t.head)) ++ le 2 (wd t.laps)
theorem trkB_TL {t : Trk} (h : 0 ≤ t.head ∧ t.head ≤ 4294967295) : trkB t = tlB (toTL t) := by
  unfold trkB tlB
  have e : IntKind.i64.wrap t.head = t.head := by rw [IntKind.wrap_i64]; omega
  simp only [toTL, cat_lst, lst_len, e, List.append_assoc]
theorem fstW_none {c : Nat → Int} : ∀ {f i : Nat}, (fstW c f i).1 = 0 → ∀ j, i ≤ j → j < i + f → c j = 0
  | 0, i, _, j, h1, h2 => by omega
  | f + 1, i, h, j, h1, h2 => by
    unfold fstW at h
    cases e : c i != 0 with
    | true =>
      rw [e] at h
      simp only [cond_true] at h
      rw [h] at e; exact absurd e (by decide)
    | false =>
      rw [e] at h
      rcases Nat.eq_or_lt_of_le h1 with rfl | h3
      · exact bne_eq_false_iff_eq.1 e
      · exact fstW_none h j h3 (by omega)
/-- Numbers in a track are such as there are. -/
structure trkIn (t : Trk) : Prop where
  cell : inI64 t.cell
  corner : inI64 t.cx ∧ inI64 t.cy
  h : ∀ i, i < t.nh → inI64 (t.h i)
  k : ∀ i, i < t.nk → inI64 (t.kg i) ∧ inI64 (t.kd i)
  l : ∀ i, i < t.nl → inI64 (t.lx i) ∧ inI64 (t.ly i)
  r : ∀ i, i < t.nr → ∀ k, k < t.rn i → inI64 (t.rx i k) ∧ inI64 (t.ry i k)
  g : ∀ i, i < t.nt → inI64 (t.ax i) ∧ inI64 (t.ay i) ∧ inI64 (t.bx i) ∧ inI64 (t.sb i)
  s : inI64 t.sx ∧ inI64 t.sy
  head : 0 ≤ t.head ∧ t.head ≤ 4294967295
theorem trkIn_of {t : Trk} (h : okL (trkC t)) : trkIn t := by
  obtain ⟨_, h1, _, _, h2, h3, ⟨_, h4⟩, _, ⟨_, h5⟩, ⟨_, h6⟩, ⟨_, h7⟩, ⟨_, h8⟩, h9, h10, h11, _⟩ := h
  exact {
    cell := h1
    corner := ⟨h2, h3⟩
    h := fun i hi => (h4 i hi).1
    k := fun i hi => ⟨(h5 i hi).1, (h5 i hi).2.1⟩
    l := fun i hi => ⟨(h6 i hi).1, (h6 i hi).2.1⟩
    r := fun i hi k hk => ⟨((h7 i hi).1.2 k hk).1, ((h7 i hi).1.2 k hk).2.1⟩
    g := fun i hi => ⟨(h8 i hi).1, (h8 i hi).2.1, (h8 i hi).2.2.1, (h8 i hi).2.2.2.1⟩
    s := ⟨h9, h10⟩
    head := h11 }
theorem tlOk_of {t : Trk} (h : (rightV t).1 = 0) (hi : trkIn t) : tlOk (toTL t) := by
  obtain ⟨g0, h⟩ := orV_zero h
  obtain ⟨r0, h⟩ := orV_zero h
  obtain ⟨t0, s0⟩ := orV_zero h
  simp only at g0
  unfold groundV at g0
  cases c1 : rateB t with
  | false => rw [c1] at g0; exact absurd g0 (show ¬ (40 : Int) = 0 by decide)
  | true =>
  rw [c1] at g0
  simp only [Bool.not_true, cond_false] at g0
  cases c2 : fieldV t != 0 with
  | true =>
    rw [c2] at g0
    simp only [cond_true] at g0
    rw [g0] at c2; exact absurd c2 (by decide)
  | false =>
  rw [c2] at g0
  simp only [cond_false] at g0
  cases c3 : lineV t.nl t.lx t.ly != 0 with
  | true =>
    rw [c3] at g0
    simp only [cond_true] at g0
    rw [g0] at c3; exact absurd c3 (by decide)
  | false =>
  have f0 := bne_eq_false_iff_eq.1 c2
  have l0 := bne_eq_false_iff_eq.1 c3
  unfold fieldV at f0
  cases c4 : countedB t.cols t.rows t.nh t.ng t.nk with
  | false => rw [c4] at f0; exact absurd f0 (show ¬ (42 : Int) = 0 by decide)
  | true =>
  rw [c4] at f0
  simp only [cond_true] at f0
  cases c5 : fieldBad t with
  | true => rw [c5] at f0; exact absurd f0 (show ¬ (40 : Int) = 0 by decide)
  | false =>
  obtain ⟨⟨k1, k2, k3⟩, n1, n2, n3, n4, n5⟩ := counted_facts c4
  unfold fieldBad at c5
  simp only [Bool.or_eq_false_iff] at c5
  obtain ⟨_, _, _, _, _, c6, _⟩ := c5
  have hg := anyB_false.1 c6
  unfold rateB at c1
  simp only [Bool.and_eq_true, decide_eq_true_eq] at c1
  unfold lineV at l0
  have hl : 3 ≤ t.nl ∧ t.nl ≤ 64 := by
    cases d1 : decide ((t.nl : Int) < 3) with
    | true => rw [d1] at l0; exact absurd l0 (show ¬ (42 : Int) = 0 by decide)
    | false =>
      rw [d1] at l0
      cases d2 : decide ((t.nl : Int) > 64) with
      | true => rw [d2] at l0; exact absurd l0 (show ¬ (42 : Int) = 0 by decide)
      | false => have := of_decide_eq_false d1; have := of_decide_eq_false d2; omega
  unfold railsV at r0
  have hr : t.nr ≤ 16 ∧ ∀ i, i < t.nr → railV t i = 0 := by
    cases d1 : decide ((t.nr : Int) > 16) with
    | true => rw [d1] at r0; exact absurd r0 (show ¬ (42 : Int) = 0 by decide)
    | false =>
      rw [d1] at r0
      have := of_decide_eq_false d1
      exact ⟨by omega, fun i hi => fstW_none r0 i (Nat.zero_le _) (by omega)⟩
  have hrn : ∀ i, i < t.nr → 2 ≤ t.rn i ∧ t.rn i ≤ 64 := fun i hi => by
    have e := hr.2 i hi
    unfold railV at e
    cases d1 : (decide ((2 : Int) ≤ t.rn i) && decide ((t.rn i : Int) ≤ 64)) with
    | false => rw [d1] at e; exact absurd e (show ¬ (42 : Int) = 0 by decide)
    | true =>
      simp only [Bool.and_eq_true, decide_eq_true_eq] at d1
      omega
  unfold gatesV at t0
  have ht : 1 ≤ t.nt ∧ t.nt ≤ 16 := by
    cases d1 : (decide ((1 : Int) ≤ t.nt) && decide ((t.nt : Int) ≤ 16)) with
    | false => rw [d1] at t0; exact absurd t0 (show ¬ (42 : Int) = 0 by decide)
    | true =>
      simp only [Bool.and_eq_true, decide_eq_true_eq] at d1
      omega
  have hlp : 1 ≤ t.laps ∧ t.laps ≤ 100 := by
    unfold startV at s0
    cases d1 : outB t with
    | true => rw [d1] at s0; exact absurd s0 (show ¬ (40 : Int) = 0 by decide)
    | false =>
      rw [d1] at s0
      cases d2 : nearAny t with
      | true => rw [d2] at s0; exact absurd s0 (show ¬ (43 : Int) = 0 by decide)
      | false =>
        rw [d2] at s0
        cases d3 : lapsB t with
        | false => rw [d3] at s0; exact absurd s0 (show ¬ (40 : Int) = 0 by decide)
        | true =>
          unfold lapsB at d3
          simp only [Bool.and_eq_true, decide_eq_true_eq] at d3
          exact d3
  have w : ∀ x : Int, -10000 ≤ x → x ≤ 10000 → IntKind.i64.wrap x = x := fun x _ _ => by rw [IntKind.wrap_i64]; omega
  have m1 := mulB (a := t.cols + 1) (b := t.rows + 1) (N := 65) (M := 65) (by omega) (by omega) (by omega) (by omega)
  have m2 := mulB (a := t.cols) (b := t.rows) (N := 64) (M := 64) (by omega) (by omega) (by omega) (by omega)
  exact {
    rate := c1
    cell := hi.cell
    cols := k1
    rows := k2
    corner := hi.corner
    nh := by
      show (nHs t.cols t.rows).toNat = (lst t.h t.nh).length
      unfold nHs
      rw [w (t.cols + 1) (by omega) (by omega), w (t.rows + 1) (by omega) (by omega), w _ (by omega) (by omega), lst_len]; omega
    heights := fun x hx => by
      obtain ⟨i, h1, rfl⟩ := lst_mem hx
      exact hi.h i h1
    ng := by
      show (nGs t.cols t.rows).toNat = (lst t.g t.ng).length
      unfold nGs
      rw [w _ (by omega) (by omega), lst_len]; omega
    ground := fun x hx => by
      obtain ⟨i, h1, rfl⟩ := lst_mem hx
      have := hg i h1
      unfold noneP at this
      simp only [Bool.or_eq_false_iff, decide_eq_false_iff_not] at this
      omega
    kinds := ⟨by show 1 ≤ ((lst _ t.nk).length : Int); rw [lst_len]; omega, by show ((lst _ t.nk).length : Int) ≤ 8; rw [lst_len]; omega, fun x hx => by
      obtain ⟨i, h1, rfl⟩ := lst_mem hx
      exact hi.k i h1⟩
    line := ⟨by show 3 ≤ ((lst _ t.nl).length : Int); rw [lst_len]; omega, by show ((lst _ t.nl).length : Int) ≤ 64; rw [lst_len]; omega, fun x hx => by
      obtain ⟨i, h1, rfl⟩ := lst_mem hx
      exact hi.l i h1⟩
    rails := ⟨by show 0 ≤ ((lst _ t.nr).length : Int); rw [lst_len]; omega, by show ((lst _ t.nr).length : Int) ≤ 16; rw [lst_len]; omega, fun x hx => by
      obtain ⟨i, h1, rfl⟩ := lst_mem hx
      have := hrn i h1
      exact ⟨by rw [lst_len]; omega, by rw [lst_len]; omega, fun c hc => by
        obtain ⟨k, h2, rfl⟩ := lst_mem hc
        exact hi.r i h1 k h2⟩⟩
    gates := ⟨by show 1 ≤ ((lst _ t.nt).length : Int); rw [lst_len]; omega, by show ((lst _ t.nt).length : Int) ≤ 16; rw [lst_len]; omega, fun x hx => by
      obtain ⟨i, h1, rfl⟩ := lst_mem hx
      exact hi.g i h1⟩
    start := hi.s
    head := hi.head
    laps := hlp }
/-- Tracks that are the same are as right. -/
theorem dec_back {t : Trk} (h : (rightV t).1 = 0) (hr : (rightV (toTL t).trk).1 = 0) (hi : trkIn t) : decO (trkB t) = (toTL t, 0, 0) := by
  have ho := tlOk_of h hi
  obtain ⟨l, e⟩ := body_there (toTL t) ho
  rw [trkB_TL hi.head]
  have e2 : endR (tlB (toTL t)) ⟨((tlB (toTL t)).length : Int), l, 0, 0⟩ = ((0, 0), ⟨((tlB (toTL t)).length : Int), l, 0, 0⟩) := by
    unfold endR
    simp only
    rw [decide_eq_false (by omega)]
    rfl
  rw [decO_eq e e2]
  simp only
  rw [hr]
  rfl
end Go.Se

/- A track told by another one that is the same. -/
namespace Go.Se
theorem ro_congr2 {ρ : Names} {T : Nat → Prop} {w : World} {n m st : Nat} {g g' : Nat → List SV} (hn : n = m) (h : ∀ i, i < n → ∀ b o, relAt T w (g i) b o → relAt T w (g' i) b o) {v : Value} (hv : rel ρ T w (.ro n st g) v) : rel ρ T w (.ro m st g') v := by
  subst hn
  obtain ⟨a, c, h1, h2, h3⟩ := hv
  refine ⟨a, c, h1, h2, fun hl => ?_⟩
  obtain ⟨b, off, h4, hb, h5, h6⟩ := h3 hl
  exact ⟨b, off, h4, hb, h5, fun i hi => h i hi _ _ (h6 i hi)⟩
theorem ro_eq {ρ : Names} {T : Nat → Prop} {w : World} {n m st : Nat} {g g' : Nat → List SV} (hn : n = m) (h : ∀ i, i < n → g i = g' i) {v : Value} (hv : rel ρ T w (.ro n st g) v) : rel ρ T w (.ro m st g') v :=
  ro_congr2 hn (fun i hi _ _ hr => by rw [← h i hi]; exact hr) hv
theorem trk_told {ρ : Names} {T : Nat → Prop} {w : World} {t u : Trk} (h : sameT t u) {l : List Value} (hr : relL ρ T w (trkC t) l) : relL ρ T w (trkC u) l := by
  obtain ⟨⟨a1, a2, a3, a4, a5, a6, a7, a8, a9⟩, b1, b2, b3, ⟨c1, c2⟩, ⟨d1, d2⟩, ⟨e1, e2⟩, f1, f2, f3, f4⟩ := h
  obtain ⟨v1, l1, z1, q1, v2, l2, z2, q2, v3, l3, z3, q3, v4, l4, z4, q4, v5, l5, z5, q5, v6, l6, z6, q6, v7, l7, z7, q7, v8, l8, z8, q8, v9, l9, z9, q9, v10, l10, z10, q10, v11, l11, z11, q11, v12, l12, z12, q12, v13, l13, z13, q13, v14, l14, z14, q14, v15, l15, z15, q15, v16, l16, z16, q16, q17⟩ := hr
  refine ⟨v1, l1, z1, a1 ▸ q1, v2, l2, z2, a2 ▸ q2, v3, l3, z3, a3 ▸ q3, v4, l4, z4, a4 ▸ q4, v5, l5, z5, a5 ▸ q5, v6, l6, z6, a6 ▸ q6, v7, l7, z7, ro_eq a7 (fun i hi => ?_) q7, v8, l8, z8, ro_eq a8 (fun i hi => ?_) q8, v9, l9, z9, ro_eq a9 (fun i hi => ?_) q9, v10, l10, z10, ro_eq c1 (fun i hi => ?_) q10, v11, l11, z11, ro_congr2 d1 (fun i hi b o hb => ?_) q11, v12, l12, z12, ro_eq e1 (fun i hi => ?_) q12, v13, l13, z13, f1 ▸ q13, v14, l14, z14, f2 ▸ q14, v15, l15, z15, f3 ▸ q15, v16, l16, z16, f4 ▸ q16, q17⟩
  · simp only [oneG, b1 i hi]
  · simp only [oneG, b2 i hi]
  · obtain ⟨k1, k2, k3⟩ := b3 i hi
    simp only [kindG, k1, k2, k3]
  · obtain ⟨k1, k2⟩ := c2 i hi
    simp only [ptsG, k1, k2]
  · obtain ⟨k1, k2⟩ := d2 i hi
    obtain ⟨⟨x, hx, hr⟩, hb2⟩ := hb
    exact ⟨⟨x, hx, ro_eq k1 (fun k hk => by simp only [ptsG, (k2 k hk).1, (k2 k hk).2]) hr⟩, hb2⟩
  · obtain ⟨k1, k2, k3, k4, k5⟩ := e2 i hi
    simp only [gateG, k1, k2, k3, k4, k5]
/-- What is told of a call on tracks told by lists holds on any. -/
theorem callOK_trk {P : Program} {k : FuncId} {t : Trk} {v : SV} {σ' : List (Option SB)} {d : List Nat} (h : CallOK P k [.agg (trkC (toTL t).trk)] [] v σ' d) : CallOK P k [.agg (trkC t)] [] v σ' d :=
  callOK_args (fun ρ T w l h => by
    obtain ⟨x, r, e, ⟨a, rfl, h1⟩, h2⟩ := h
    exact ⟨_, r, e, ⟨a, rfl, trk_told (toTL_same t) h1⟩, h2⟩) h
theorem toTL_idem (t : Trk) : toTL (toTL t).trk = toTL t := toTL_trk (toTL t)
end Go.Se

/- A track's bytes: bounds. -/
namespace Go.Se

/-- Where a reader is, all of it. -/
def rdIn (B : List Int) (s : Rs) : Prop := rdOk B s ∧ (0 ≤ s.last ∧ s.last ≤ (B.length : Int)) ∧ 0 ≤ s.place ∧ s.place ≤ (B.length : Int)
def Keeps {α : Type} (rd : List Int → Rs → α × Rs) : Prop := ∀ B s, rdIn B s → rdIn B (rd B s).2
theorem failR_in {e a : Int} {B : List Int} {s : Rs} (h : rdIn B s) (ha : 0 ≤ a ∧ a ≤ (B.length : Int)) : rdIn B (failR e a s) := by
  unfold failR
  cases s.err == 0
  · exact h
  · exact ⟨h.1, h.2.1, ha⟩
theorem keeps_word {α : Type} {n : Nat} {rd : List Int → Rs → α × Rs} {f : List Int → Rs → α × Rs} {a : α}
    (h : ∀ B s, rd B s = match wordR B n s with | (some w, s) => f w s | (none, s) => (a, s)) (hf : ∀ B w s, rdIn B s → rdIn B (f w s).2) : Keeps rd := fun B s hs => by
  rw [h]
  obtain ⟨⟨h1, h2⟩, h3, h4⟩ := hs
  rcases wordR_cases B n s with ⟨_, e⟩ | ⟨_, _, e⟩ | ⟨_, e1, e⟩ <;> rw [e]
  · exact ⟨⟨h1, h2⟩, h3, h4⟩
  · exact ⟨⟨h1, h2⟩, h3, Int.natCast_nonneg _, Int.le_refl _⟩
  · exact hf B _ _ ⟨⟨by simp only; omega, by simp only; omega⟩, ⟨h1, h2⟩, h4⟩
theorem keeps_num : Keeps numR := keeps_word (f := fun w s => (IntKind.i64.wrap (unle w), s)) (fun _ _ => rfl) fun _ _ _ h => h
theorem keeps_count (lo hi : Int) : Keeps (countR lo hi) := keeps_word (f := fun w s => bif decide (unle w < lo) || decide (unle w > hi) then (0, failR 22 s.last s) else (unle w, s)) (fun _ _ => rfl) fun B w s h => by
  cases decide (unle w < lo) || decide (unle w > hi)
  · exact h
  · exact failR_in h h.2.1
theorem keeps_flag : Keeps flagR := keeps_word (f := fun w s => bif decide (unle w > 1) then (false, failR 24 s.last s) else (unle w == 1, s)) (fun _ _ => rfl) fun B w s h => by
  cases decide (unle w > 1)
  · exact h
  · exact failR_in h h.2.1
theorem keeps_mark (m : List Int) : Keeps (markR m) := keeps_word (f := fun w s => bif w == m then ((), s) else ((), failR 21 s.last s)) (fun _ _ => rfl) fun B w s h => by
  cases w == m
  · exact failR_in h h.2.1
  · exact h
theorem keeps_then {α β γ : Type} {f : List Int → Rs → α × Rs} {g : α → List Int → Rs → β × Rs} {h : α → β → γ} (hf : Keeps f) (hg : ∀ a, Keeps (g a)) : Keeps (thenR f g h) := fun B s hs => hg _ B _ (hf B s hs)
theorem keeps_take {α : Type} {rd : List Int → Rs → α × Rs} (h : Keeps rd) : ∀ n, Keeps (takeR rd n)
  | 0 => fun _ _ h => h
  | n + 1 => fun B s hs => h B _ (keeps_take h n B s hs)
theorem keeps_many {α : Type} {lo hi : Int} {rd : List Int → Rs → α × Rs} (h : Keeps rd) : Keeps (manyR lo hi rd) := keeps_then (keeps_count lo hi) fun n => keeps_take h n.toNat
theorem keeps_place : Keeps placeR := keeps_then keeps_num fun _ => keeps_num
theorem keeps_kind : Keeps kindR := keeps_then keeps_num fun _ => keeps_then keeps_num fun _ => keeps_flag
theorem keeps_gate : Keeps gateR := keeps_then keeps_place fun _ => keeps_then keeps_place fun _ => keeps_flag
theorem keeps_head : Keeps headR := fun B s hs => by
  have h := keeps_num B s hs
  unfold headR; simp only
  cases decide ((numR B s).1 < 0) || decide ((numR B s).1 > 4294967295)
  · exact h
  · exact failR_in h h.2.1
theorem body_chain {B : List Int} {s s' : Rs} {t : TL} (h : bodyR B s = (t, s')) : ∃ a0 s0 s1 s2 s3 s4 s5 s6 s7 s8 s9 t1 t2 t3 t4, markR [67, 72, 84, 82] B s = (a0, s0) ∧ countR 60 1024 B s0 = (t.rate, s1) ∧ numR B s1 = (t.cell, s2) ∧ countR 1 64 B s2 = (t.cols, s3) ∧ countR 1 64 B s3 = (t.rows, s4) ∧ placeR B s4 = (t.corner, s5) ∧
    takeR numR (nHs t.cols t.rows).toNat B s5 = (t.heights, s6) ∧ takeR (countR 0 7) (nGs t.cols t.rows).toNat B s6 = (t.ground, s7) ∧ manyR 1 8 kindR B s7 = (t.kinds, s8) ∧ manyR 3 64 placeR B s8 = (t.line, s9) ∧ manyR 0 16 railR B s9 = (t.rails, t1) ∧ manyR 1 16 gateR B t1 = (t.gates, t2) ∧ placeR B t2 = (t.start, t3) ∧ headR B t3 = (t.head, t4) ∧ countR 1 100 B t4 = (t.laps, s') := by
  unfold bodyR at h
  generalize x0 : markR [67, 72, 84, 82] B s = v0 at h
  obtain ⟨a0, s0⟩ := v0
  simp only at h
  generalize x1 : countR 60 1024 B s0 = v1 at h
  obtain ⟨a1, s1⟩ := v1
  simp only at h
  generalize x2 : numR B s1 = v2 at h
  obtain ⟨a2, s2⟩ := v2
  simp only at h
  generalize x3 : countR 1 64 B s2 = v3 at h
  obtain ⟨a3, s3⟩ := v3
  simp only at h
  generalize x4 : countR 1 64 B s3 = v4 at h
  obtain ⟨a4, s4⟩ := v4
  simp only at h
  generalize x5 : placeR B s4 = v5 at h
  obtain ⟨a5, s5⟩ := v5
  simp only at h
  generalize x6 : takeR numR (nHs a3 a4).toNat B s5 = v6 at h
  obtain ⟨a6, s6⟩ := v6
  simp only at h
  generalize x7 : takeR (countR 0 7) (nGs a3 a4).toNat B s6 = v7 at h
  obtain ⟨a7, s7⟩ := v7
  simp only at h
  generalize x8 : manyR 1 8 kindR B s7 = v8 at h
  obtain ⟨a8, s8⟩ := v8
  simp only at h
  generalize x9 : manyR 3 64 placeR B s8 = v9 at h
  obtain ⟨a9, s9⟩ := v9
  simp only at h
  generalize y1 : manyR 0 16 railR B s9 = w1 at h
  obtain ⟨b1, t1⟩ := w1
  simp only at h
  generalize y2 : manyR 1 16 gateR B t1 = w2 at h
  obtain ⟨b2, t2⟩ := w2
  simp only at h
  generalize y3 : placeR B t2 = w3 at h
  obtain ⟨b3, t3⟩ := w3
  simp only at h
  generalize y4 : headR B t3 = w4 at h
  obtain ⟨b4, t4⟩ := w4
  simp only at h
  generalize y5 : countR 1 100 B t4 = w5 at h
  obtain ⟨b5, t5⟩ := w5
  simp only at h
  cases h
  exact ⟨a0, s0, s1, s2, s3, s4, s5, s6, s7, s8, s9, t1, t2, t3, t4, rfl, x1, x2, x3, x4, x5, x6, x7, x8, x9, y1, y2, y3, y4, y5⟩
theorem keeps_body {B : List Int} {s s' : Rs} {t : TL} (h : bodyR B s = (t, s')) (hs : rdIn B s) : rdIn B s' := by
  obtain ⟨a0, s0, s1, s2, s3, s4, s5, s6, s7, s8, s9, t1, t2, t3, t4, x0, x1, x2, x3, x4, x5, x6, x7, x8, x9, y1, y2, y3, y4, y5⟩ := body_chain h
  have step : ∀ {α : Type} {rd : List Int → Rs → α × Rs} {s s' : Rs} {a : α}, Keeps rd → rd B s = (a, s') → rdIn B s → rdIn B s' := fun hk e hi => by
    have := hk B _ hi
    rw [e] at this; exact this
  exact step (keeps_count _ _) y5 (step keeps_head y4 (step keeps_place y3 (step (keeps_many keeps_gate) y2 (step (rd := manyR 0 16 railR) (keeps_many (rd := railR) (keeps_many keeps_place)) y1 (step (keeps_many keeps_place) x9 (step (keeps_many keeps_kind) x8 (step (keeps_take (keeps_count 0 7) _) x7 (step (keeps_take keeps_num _) x6 (step keeps_place x5
    (step (keeps_count _ _) x4 (step (keeps_count _ _) x3 (step keeps_num x2 (step (keeps_count _ _) x1 (step (keeps_mark _) x0 hs))))))))))))))
theorem body_head {B : List Int} {s s' : Rs} {t : TL} (h : bodyR B s = (t, s')) : ∃ u, t.head = (headR B u).1 := by
  obtain ⟨_, _, _, _, _, _, _, _, _, _, _, _, _, t3, _, _, _, _, _, _, _, _, _, _, _, _, _, _, y4, _⟩ := body_chain h
  exact ⟨t3, by rw [y4]⟩
theorem trk_head (t : TL) : t.trk.head = t.head := rfl
theorem dec_at (B : List Int) : 0 ≤ (decO B).2.2 ∧ (decO B).2.2 ≤ (B.length : Int) := by
  have h0 : rdIn B ⟨0, 0, 0, 0⟩ := ⟨⟨Int.le_refl _, Int.natCast_nonneg _⟩, ⟨Int.le_refl _, Int.natCast_nonneg _⟩, Int.le_refl _, Int.natCast_nonneg _⟩
  unfold decO
  simp only
  generalize hx : bodyR B ⟨0, 0, 0, 0⟩ = x at *
  have h1 := keeps_body (t := x.1) (s' := x.2) hx h0
  have h2 : 0 ≤ (endR B x.2).1.2 ∧ (endR B x.2).1.2 ≤ (B.length : Int) := by
    unfold endR
    simp only
    cases decide (x.2.pos < (B.length : Int))
    · exact h1.2.2
    · exact (failR_in (e := 23) h1 h1.1).2.2
  cases (endR B x.2).1.1 != 0
  · cases (rightV x.1.trk).1 != 0
    · exact ⟨Int.le_refl _, Int.natCast_nonneg _⟩
    · exact ⟨Int.natCast_nonneg _, Int.le_refl _⟩
  · exact h2
theorem head_in (B : List Int) (s : Rs) : 0 ≤ (headR B s).1 ∧ (headR B s).1 ≤ 4294967295 := by
  unfold headR; simp only
  cases c : decide ((numR B s).1 < 0) || decide ((numR B s).1 > 4294967295) with
  | true =>
    show 0 ≤ IntKind.u32.wrap _ ∧ IntKind.u32.wrap _ ≤ 4294967295
    rw [wu32]; omega
  | false =>
    simp only [Bool.or_eq_false_iff, decide_eq_false_iff_not] at c
    show 0 ≤ (numR B s).1 ∧ (numR B s).1 ≤ 4294967295
    omega
theorem dec_head (B : List Int) : 0 ≤ (decO B).1.head ∧ (decO B).1.head ≤ 4294967295 := by
  unfold decO
  simp only
  generalize hx : bodyR B ⟨0, 0, 0, 0⟩ = x at *
  obtain ⟨u, e⟩ := body_head (t := x.1) (s' := x.2) hx
  have h : 0 ≤ x.1.head ∧ x.1.head ≤ 4294967295 := by rw [e]; exact head_in B u
  have hz : (0 : Int) ≤ 0 ∧ (0 : Int) ≤ 4294967295 := by decide
  cases (endR B x.2).1.1 != 0
  · cases (rightV x.1.trk).1 != 0
    · exact h
    · exact hz
  · exact hz
theorem cat_le {f : Nat → List Int} {m : Nat} : ∀ {n : Nat}, (∀ i, i < n → (f i).length ≤ m) → (cat f n).length ≤ n * m
  | 0, _ => by simp [cat]
  | n + 1, h => by
    have h1 := cat_le (f := f) (m := m) (n := n) fun i hi => h i (by omega)
    have h2 := h n (by omega)
    simp only [cat, List.length_append, Nat.add_mul, Nat.one_mul]; omega
theorem ptB_len (x y : Int) : (ptB x y).length = 16 := by unfold ptB; simp [le_len]
theorem trkB_len {t : Trk} (h1 : t.nh ≤ 1200) (h2 : t.ng ≤ 1000) (h3 : t.nk ≤ 20) (h4 : t.nl ≤ 100) (h5 : smallR t) (h6 : t.nt ≤ 20) : (trkB t).length ≤ 900000 := by
  have c1 := cat_le (f := fun i => le 8 (wd (t.h i))) (m := 8) (n := t.nh) fun i _ => by rw [le_len]; exact Nat.le_refl _
  have c2 := cat_le (f := fun i => le 2 (wd (t.g i))) (m := 2) (n := t.ng) fun i _ => by rw [le_len]; exact Nat.le_refl _
  have c3 := cat_le (f := fun i => kindB (t.kg i) (t.kd i) (t.ko i)) (m := 17) (n := t.nk) fun i _ => by unfold kindB flB; simp [le_len]
  have c4 := cat_le (f := fun i => ptB (t.lx i) (t.ly i)) (m := 16) (n := t.nl) fun i _ => by rw [ptB_len]; exact Nat.le_refl _
  have c5 := cat_le (f := fun i => le 2 (wd (t.rn i : Int)) ++ cat (fun k => ptB (t.rx i k) (t.ry i k)) (t.rn i)) (m := 1602) (n := t.nr) fun i hi => by
    have e := cat_le (f := fun k => ptB (t.rx i k) (t.ry i k)) (m := 16) (n := t.rn i) fun k _ => by rw [ptB_len]; exact Nat.le_refl _
    have := h5.2 i hi
    rw [List.length_append, le_len]; omega
  have c6 := cat_le (f := fun i => gateB (t.ax i) (t.ay i) (t.bx i) (t.sb i) (t.sp i)) (m := 33) (n := t.nt) fun i _ => by unfold gateB flB; simp [ptB_len]
  have := h5.1
  unfold trkB
  simp only [List.length_append, le_len, ptB_len, List.length_cons, List.length_nil]
  omega
theorem dec_trkB {B : List Int} (hB : bytesOk B) (h : (decO B).2.1 = 0) : trkB (decO B).1.trk = B := by
  rw [trkB_TL (t := (decO B).1.trk) (by rw [trk_head]; exact dec_head B), toTL_trk]
  exact (dec_one hB h).1
def railsOk (l : List (List (Int × Int))) : Prop := l.length ≤ 20 ∧ ∀ i, i < l.length → rlen (listG raL [] l i) ≤ 100
theorem body_rails {B : List Int} {s s' : Rs} {t : TL} (h : bodyR B s = (t, s')) : railsOk t.rails := by
  obtain ⟨_, _, _, _, _, _, _, _, _, _, _, _, _, _, _, _, _, _, _, _, _, _, _, _, _, y1, _⟩ := body_chain h
  exact rails_small y1
theorem dec_rails (B : List Int) : railsOk (decO B).1.rails := by
  unfold decO
  simp only
  generalize hx : bodyR B ⟨0, 0, 0, 0⟩ = x at *
  have h := body_rails (t := x.1) (s' := x.2) hx
  have hz : railsOk TL.zero.rails := ⟨Nat.zero_le _, fun i hi => absurd hi (Nat.not_lt_zero i)⟩
  cases (endR B x.2).1.1 != 0
  · cases (rightV x.1.trk).1 != 0
    · exact h
    · exact hz
  · exact hz
theorem trk_small {t : TL} (h : railsOk t.rails) : smallR t.trk := h
theorem dec_small (B : List Int) : smallR (decO B).1.trk := trk_small (dec_rails B)
/-- What bytes are, told. -/
def IsD (B : List Int) (t : Trk) (e a : Int) : Prop := ∃ tl, decO B = (tl, e, a) ∧ t = tl.trk
theorem callOK_bytes {P : Program} {k : FuncId} {v : SV} {σ' : List (Option SB)} {d : List Nat} (h : ∀ B : List Int, CallOK P k [.ro B.length 1 (bG B)] [] v σ' d) (n : Nat) (x : Nat → Int) : CallOK P k [.ro n 1 (fun i => [.int .u8 (x i)])] [] v σ' d := by
  have := h (lst x n)
  rw [lst_len] at this
  exact callOK_ro1 (fun i hi => by show [SV.int .u8 (x i)] = bG (lst x n) i; unfold bG; rw [lst_getD hi]) this
end Go.Se

