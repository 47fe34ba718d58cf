/- A track's bytes, read: plain. -/
import Derived.Test.YtbedljhbakdghaaGreatDoorSeWire
import Derived.Test.YtbedljhbakdghaaGreatDoorSeTrk
namespace Go.Se

/-- A track, as it is read. -/
structure TL where
  rate : Int
  cell : Int
  cols : Int
  rows : Int
  corner : Int × Int
  heights : List Int
  ground : List Int
  kinds : List (Int × Int × Bool)
  line : List (Int × Int)
  rails : List (List (Int × Int))
  gates : List (Int × Int × Int × Int × Bool)
  start : Int × Int
  head : Int
  laps : Int
def TL.trk (t : TL) : Trk := trkOf t.rate t.cell t.cols t.rows t.corner.1 t.corner.2 t.heights.length (listG oneL 0 t.heights) t.ground.length (listG oneL 0 t.ground) t.kinds.length (listG kiL (0, 0, false) t.kinds)
  t.line.length (listG plL (0, 0) t.line) t.rails.length (listG raL [] t.rails) t.gates.length (listG gaL (0, 0, 0, 0, false) t.gates) t.start.1 t.start.2 t.head t.laps
def TL.zero : TL := ⟨0, 0, 0, 0, (0, 0), [], [], [], [], [], [], (0, 0), 0, 0⟩
def nHs (a b : Int) : Int := IntKind.i64.wrap (IntKind.i64.wrap (a + 1) * IntKind.i64.wrap (b + 1))
def nGs (a b : Int) : Int := IntKind.i64.wrap (a * b)
/-- All that stands ahead of the end. -/
def bodyR (B : List Int) (s : Rs) : TL × Rs :=
  let x0 := markR [67, 72, 84, 82] B s
  let x1 := countR 60 1024 B x0.2
  let x2 := numR B x1.2
  let x3 := countR 1 64 B x2.2
  let x4 := countR 1 64 B x3.2
  let x5 := placeR B x4.2
  let x6 := takeR numR (nHs x3.1 x4.1).toNat B x5.2
  let x7 := takeR (countR 0 7) (nGs x3.1 x4.1).toNat B x6.2
  let x8 := manyR 1 8 kindR B x7.2
  let x9 := manyR 3 64 placeR B x8.2
  let y1 := manyR 0 16 railR B x9.2
  let y2 := manyR 1 16 gateR B y1.2
  let y3 := placeR B y2.2
  let y4 := headR B y3.2
  let y5 := countR 1 100 B y4.2
  (⟨x1.1, x2.1, x3.1, x4.1, x5.1, x6.1, x7.1, x8.1, x9.1, y1.1, y2.1, y3.1, y4.1, y5.1⟩, y5.2)
/-- What bytes are: the track, what is wrong, and where. -/
def decO (B : List Int) : TL × Int × Int :=
  let x := bodyR B ⟨0, 0, 0, 0⟩
  let e := (endR B x.2).1
  bif e.1 != 0 then (TL.zero, e.1, e.2) else bif (rightV x.1.trk).1 != 0 then (TL.zero, (rightV x.1.trk).1, B.length) else (x.1, 0, 0)

theorem takeR_all {α : Type} {rd : List Int → Rs → α × Rs} {B : List Int} {s : Rs} : ∀ {n : Nat} {x : α}, x ∈ (takeR rd n B s).1 → ∃ s', x = (rd B s').1
  | 0, x, h => by cases h
  | n + 1, x, h => by
    rcases List.mem_append.1 (show x ∈ (takeR rd n B s).1 ++ [_] from h) with h | h
    · exact takeR_all h
    · exact ⟨_, by simpa using h⟩
theorem many_len {α : Type} {lo hi : Int} {rd : List Int → Rs → α × Rs} {B : List Int} {s : Rs} (hlo : 0 ≤ hi) : ((manyR lo hi rd B s).1.length : Int) ≤ hi := by
  have e : (manyR lo hi rd B s).1 = (takeR rd (countR lo hi B s).1.toNat B (countR lo hi B s).2).1 := rfl
  rw [e, takeR_len]
  have h : ∀ a s1, countR lo hi B s = (a, s1) → ((a.toNat : Nat) : Int) ≤ hi := fun a s1 e => by
    rcases count_range e with h | h <;> omega
  exact h _ _ rfl
theorem rails_small {lo : Int} {B : List Int} {s s' : Rs} {L : List (List (Int × Int))} (h : manyR lo 16 railR B s = (L, s')) : L.length ≤ 20 ∧ ∀ i, i < L.length → rlen (listG raL [] L i) ≤ 100 := by
  have h1 := many_len (lo := lo) (hi := 16) (rd := railR) (B := B) (s := s) (by decide)
  rw [h] at h1
  refine ⟨by simp only at h1; omega, fun i hi => ?_⟩
  rw [listG_at hi]
  have hm : L[i] ∈ L := List.getElem_mem hi
  have e : L = (takeR railR (countR lo 16 B s).1.toNat B (countR lo 16 B s).2).1 := (congrArg Prod.fst h).symm
  have hm2 : L[i] ∈ (takeR railR (countR lo 16 B s).1.toNat B (countR lo 16 B s).2).1 := by rw [← e]; exact hm
  obtain ⟨s2, e2⟩ := takeR_all hm2
  have h2 := many_len (lo := 2) (hi := 64) (rd := placeR) (B := B) (s := s2) (by decide)
  show (L[i]).length ≤ 100
  rw [e2]
  show (manyR 2 64 placeR B s2).1.length ≤ 100
  omega
theorem TL.shape (t : TL) : trkS (listG oneL 0 t.heights) (listG oneL 0 t.ground) (listG kiL (0, 0, false) t.kinds) (listG plL (0, 0) t.line) (listG raL [] t.rails) (listG gaL (0, 0, 0, 0, false) t.gates) :=
  ⟨fun _ => rfl, fun _ => rfl, fun _ => rfl, fun _ => rfl, fun _ => rfl, fun _ => rfl⟩
theorem nHs_le {B : List Int} {s1 s2 s3 s4 : Rs} {a b : Int} (e1 : countR 1 64 B s1 = (a, s2)) (e2 : countR 1 64 B s3 = (b, s4)) : nHs a b ≤ 100000 := by
  have h1 := count_range e1
  have h2 := count_range e2
  have m := mulB (a := a + 1) (b := b + 1) (N := 65) (M := 65) (by omega) (by omega) (by omega) (by omega)
  unfold nHs
  have w1 : IntKind.i64.wrap (a + 1) = a + 1 := by rw [IntKind.wrap_i64]; omega
  have w2 : IntKind.i64.wrap (b + 1) = b + 1 := by rw [IntKind.wrap_i64]; omega
  rw [w1, w2, IntKind.wrap_i64]; omega
theorem nGs_le {B : List Int} {s1 s2 s3 s4 : Rs} {a b : Int} (e1 : countR 1 64 B s1 = (a, s2)) (e2 : countR 1 64 B s3 = (b, s4)) : nGs a b ≤ 100000 := by
  have h1 := count_range e1
  have h2 := count_range e2
  have m := mulB (a := a) (b := b) (N := 64) (M := 64) (by omega) (by omega) (by omega) (by omega)
  unfold nGs
  rw [IntKind.wrap_i64]; omega
theorem bodyR_eq {B : List Int} {s s0 s1 s2 s3 s4 s5 s6 s7 s8 s9 t1 t2 t3 t4 t5 : Rs} {u : Unit} {a1 a2 a3 a4 y4 y5 : Int} {a5 y3 : Int × Int} {a6 a7 : List Int} {a8 : List (Int × Int × Bool)} {a9 : List (Int × Int)} {y1 : List (List (Int × Int))} {y2 : List (Int × Int × Int × Int × Bool)}
    (e0 : markR [67, 72, 84, 82] B s = (u, s0)) (e1 : countR 60 1024 B s0 = (a1, s1)) (e2 : numR B s1 = (a2, s2)) (e3 : countR 1 64 B s2 = (a3, s3)) (e4 : countR 1 64 B s3 = (a4, s4)) (e5 : placeR B s4 = (a5, s5))
    (e6 : takeR numR (nHs a3 a4).toNat B s5 = (a6, s6)) (e7 : takeR (countR 0 7) (nGs a3 a4).toNat B s6 = (a7, s7)) (e8 : manyR 1 8 kindR B s7 = (a8, s8)) (e9 : manyR 3 64 placeR B s8 = (a9, s9)) (f1 : manyR 0 16 railR B s9 = (y1, t1))
    (f2 : manyR 1 16 gateR B t1 = (y2, t2)) (f3 : placeR B t2 = (y3, t3)) (f4 : headR B t3 = (y4, t4)) (f5 : countR 1 100 B t4 = (y5, t5)) :
    bodyR B s = (⟨a1, a2, a3, a4, a5, a6, a7, a8, a9, y1, y2, y3, y4, y5⟩, t5) := by
  unfold bodyR
  simp only [e0, e1, e2, e3, e4, e5, e6, e7, e8, e9, f1, f2, f3, f4, f5]
theorem decO_eq {B : List Int} {x : TL} {s t : Rs} {e : Int × Int} (h1 : bodyR B ⟨0, 0, 0, 0⟩ = (x, s)) (h2 : endR B s = (e, t)) :
    decO B = bif e.1 != 0 then (TL.zero, e.1, e.2) else bif (rightV x.trk).1 != 0 then (TL.zero, (rightV x.trk).1, (B.length : Int)) else (x, 0, 0) := by
  unfold decO
  simp only [h1, h2]
theorem decO_zero {B : List Int} (h : ((decO B).2.1 != 0) = true) : (decO B).1 = TL.zero := by
  unfold decO at h ⊢
  simp only at h ⊢
  generalize bodyR B ⟨0, 0, 0, 0⟩ = x at *
  cases c : (endR B x.2).1.1 != 0 with
  | true => rfl
  | false =>
    rw [c] at h
    simp only [cond_false] at h ⊢
    cases c2 : (rightV x.1.trk).1 != 0 with
    | true => rfl
    | false => rw [c2] at h; exact absurd h (show ¬ ((0 : Int) != 0) = true by decide)
/-- Tracks that are the same, part by part. -/
def sameT (t u : Trk) : Prop :=
  (t.rate = u.rate ∧ t.cell = u.cell ∧ t.cols = u.cols ∧ t.rows = u.rows ∧ t.cx = u.cx ∧ t.cy = u.cy ∧ t.nh = u.nh ∧ t.ng = u.ng ∧ t.nk = u.nk) ∧
  (∀ i, i < t.nh → t.h i = u.h i) ∧ (∀ i, i < t.ng → t.g i = u.g i) ∧ (∀ i, i < t.nk → t.kg i = u.kg i ∧ t.kd i = u.kd i ∧ t.ko i = u.ko i) ∧
  (t.nl = u.nl ∧ ∀ i, i < t.nl → t.lx i = u.lx i ∧ t.ly i = u.ly i) ∧ (t.nr = u.nr ∧ ∀ i, i < t.nr → t.rn i = u.rn i ∧ ∀ k, k < t.rn i → t.rx i k = u.rx i k ∧ t.ry i k = u.ry i k) ∧
  (t.nt = u.nt ∧ ∀ i, i < t.nt → t.ax i = u.ax i ∧ t.ay i = u.ay i ∧ t.bx i = u.bx i ∧ t.sb i = u.sb i ∧ t.sp i = u.sp i) ∧ (t.sx = u.sx ∧ t.sy = u.sy ∧ t.head = u.head ∧ t.laps = u.laps)
theorem sameT_refl (t : Trk) : sameT t t :=
  ⟨⟨rfl, rfl, rfl, rfl, rfl, rfl, rfl, rfl, rfl⟩, fun _ _ => rfl, fun _ _ => rfl, fun _ _ => ⟨rfl, rfl, rfl⟩, ⟨rfl, fun _ _ => ⟨rfl, rfl⟩⟩, ⟨rfl, fun _ _ => ⟨rfl, fun _ _ => ⟨rfl, rfl⟩⟩⟩, ⟨rfl, fun _ _ => ⟨rfl, rfl, rfl, rfl, rfl⟩⟩, rfl, rfl, rfl, rfl⟩
theorem sm_step {i n m : Nat} (hi : i < n) (hm : n = m) {c : Bool} (hc : c = false) {A N X : Prop} (h : N) :
    Br (decide ((i : Int) < (n : Int))) (Br (decide (0 ≤ (i : Int)) && decide ((i : Int) < (n : Int))) (Br (decide (0 ≤ (i : Int)) && decide ((i : Int) < (m : Int))) (Br c A N) False) False) X := by
  subst hm; subst hc
  exact Br.of (fun _ => Br.of (fun _ => Br.of (fun _ => h) fun c => in_f hi c) fun c => in_f hi c) fun c => lt_f hi c
theorem ne_f {a b : Int} (h : a = b) : (a != b) = false := by rw [h]; exact bne_self_eq_false b
theorem nn_f {a b : Nat} (h : a = b) : ((a : Int) != (b : Int)) = false := ne_f (by rw [h])
theorem no_t {b : Bool} (h : b = true) : (!b) = false := by rw [h]; rfl
/-- Two tracks that are the same: it is so. -/
def cSame2 : List SV → List (Option SB) → KC → Prop
  | [.agg [.int .i64 a0, .int .i64 a1, .int .i64 a2, .int .i64 a3, .int .i64 a4, .int .i64 a5, .ro anh 1 ah, .ro ang 1 ag, .ro ank 3 akg, .ro anl 2 al, .ro anr 1 arl, .ro ant 5 agt, .int .i64 asx, .int .i64 asy, .int .u32 ahd, .int .i64 alp], .agg [.int .i64 b0, .int .i64 b1, .int .i64 b2, .int .i64 b3, .int .i64 b4, .int .i64 b5, .ro bnh 1 bh, .ro bng 1 bg, .ro bnk 3 bkg, .ro bnl 2 bl, .ro bnr 1 brl, .ro bnt 5 bgt, .int .i64 bsx, .int .i64 bsy, .int .u32 bhd, .int .i64 blp]], [], K => trkS ah ag akg al arl agt ∧ trkS bh bg bkg bl brl bgt ∧ sameT (trkOf a0 a1 a2 a3 a4 a5 anh ah ang ag ank akg anl al anr arl ant agt asx asy ahd alp) (trkOf b0 b1 b2 b3 b4 b5 bnh bh bng bg bnk bkg bnl bl bnr brl bnt bgt bsx bsy bhd blp) ∧ K (.bool true) [] []
  | _, _, _ => False
theorem cSame2_sat {P : Program} {k : FuncId} (h : ∀ t u : Trk, sameT t u → CallOK P k [.agg (trkC t), .agg (trkC u)] [] (.bool true) [] []) (xs : List SV) (σ : List (Option SB)) : Sat P k xs σ (cSame2 xs σ) := by
  intro K hK
  unfold cSame2 at hK
  split at hK
  · obtain ⟨h1, h2, h3, hK⟩ := hK
    refine ⟨_, _, _, hK, ?_⟩
    rw [trkC_of h1, trkC_of h2]
    exact h _ _ h3
  · exact hK.elim
theorem trk_ok {t : Trk} (h : okL (trkC t)) : t.nh < 9223372036854775808 ∧ t.ng < 9223372036854775808 ∧ t.nk < 9223372036854775808 ∧ t.nl < 9223372036854775808 ∧ t.nr < 9223372036854775808 ∧ t.nt < 9223372036854775808 := by
  obtain ⟨_, _, _, _, _, _, h1, h2, h3, h4, h5, h6, _⟩ := h
  exact ⟨h1.1, h2.1, h3.1, h4.1, h5.1, h6.1⟩
end Go.Se

/- A track's bytes, there and back: plain. -/
namespace Go.Se

theorem reads_at {L w R : List Int} {n : Nat} (hw : w.length = n) (l q : Int) : wordR (L ++ w ++ R) n ⟨(L.length : Int), l, 0, q⟩ = (some w, ⟨(L.length : Int) + n, (L.length : Int), 0, q⟩) := by
  subst hw
  unfold wordR
  rw [show ((0 : Int) != 0) = false from rfl, cond_false]
  rw [decide_eq_false (by simp only [List.length_append, Int.natCast_add]; omega), cond_false]
  show (some (((L ++ w ++ R).drop (L.length : Int).toNat).take w.length), _) = _
  rw [Int.toNat_natCast, List.append_assoc, List.drop_left, List.take_left]

/-- What is written is read: ok says of what. -/
def There {α : Type} (rd : List Int → Rs → α × Rs) (enc : α → List Int) (ok : α → Prop) : Prop :=
  ∀ (a : α), ok a → ∀ (L R : List Int) (l q : Int), ∃ l', rd (L ++ enc a ++ R) ⟨(L.length : Int), l, 0, q⟩ = (a, ⟨((L ++ enc a).length : Int), l', 0, q⟩)
theorem there_num : There numR (fun x => le 8 (wd x)) (fun x => -9223372036854775808 ≤ x ∧ x ≤ 9223372036854775807) := fun x hx L R l q => by
  refine ⟨(L.length : Int), ?_⟩
  rw [num_some (reads_at (le_len 8 (wd x)) l q), unle_le 8 (wd x) (wd_lo x) (wd_hi x)]
  have e : IntKind.i64.wrap (wd x) = x := by unfold wd; rw [IntKind.wrap_i64]; omega
  rw [e]
  simp only [List.length_append, le_len, Int.natCast_add]
theorem there_count (lo hi : Int) : There (countR lo hi) (fun x => le 2 (wd x)) (fun x => lo ≤ x ∧ x ≤ hi ∧ 0 ≤ x ∧ x < 65536) := fun x ⟨h1, h2, h3, h4⟩ L R l q => by
  refine ⟨(L.length : Int), ?_⟩
  have e : wd x = x := by unfold wd; omega
  rw [count_some (reads_at (le_len 2 (wd x)) l q), e, unle_le 2 x h3 h4]
  rw [decide_eq_false (by omega), decide_eq_false (by omega)]
  simp only [List.length_append, le_len, Int.natCast_add]
  rfl
theorem there_flag : There flagR flB (fun _ => True) := fun b _ L R l q => by
  refine ⟨(L.length : Int), ?_⟩
  rw [flag_some (reads_at (n := 1) rfl l q)]
  unfold flB
  rw [unle_one]
  cases b <;> simp
theorem there_then {α β γ : Type} {f : List Int → Rs → α × Rs} {g : List Int → Rs → β × Rs} {h : α → β → γ} {e1 : α → List Int} {e2 : β → List Int} {o1 : α → Prop} {o2 : β → Prop} {e : γ → List Int} {o : γ → Prop} {p1 : γ → α} {p2 : γ → β}
    (hf : There f e1 o1) (hg : There g e2 o2) (hh : ∀ c, h (p1 c) (p2 c) = c) (he : ∀ c, e c = e1 (p1 c) ++ e2 (p2 c)) (ho : ∀ c, o c → o1 (p1 c) ∧ o2 (p2 c)) : There (thenR f (fun _ => g) h) e o := fun c hc L R l q => by
  obtain ⟨ho1, ho2⟩ := ho c hc
  obtain ⟨l1, h1⟩ := hf _ ho1 L (e2 (p2 c) ++ R) l q
  obtain ⟨l2, h2⟩ := hg _ ho2 (L ++ e1 (p1 c)) R l1 q
  refine ⟨l2, ?_⟩
  rw [he c, ← List.append_assoc L]
  rw [← List.append_assoc (L ++ e1 (p1 c))] at h1
  rw [thenR_eq h1 h2, hh]
abbrev inI64 (x : Int) : Prop := -9223372036854775808 ≤ x ∧ x ≤ 9223372036854775807
theorem there_place : There placeR (fun c => ptB c.1 c.2) (fun c => inI64 c.1 ∧ inI64 c.2) :=
  there_then (p1 := Prod.fst) (p2 := Prod.snd) there_num there_num (fun _ => rfl) (fun _ => rfl) fun _ h => h
theorem there_kind : There kindR (fun c => kindB c.1 c.2.1 c.2.2) (fun c => inI64 c.1 ∧ inI64 c.2.1) :=
  there_then (p1 := Prod.fst) (p2 := Prod.snd) there_num (there_then (o := fun c : Int × Bool => inI64 c.1) (e := fun c : Int × Bool => le 8 (wd c.1) ++ flB c.2) (p1 := Prod.fst) (p2 := Prod.snd) there_num there_flag (fun _ => rfl) (fun _ => rfl) fun _ h => ⟨h, trivial⟩) (fun _ => rfl)
    (fun _ => List.append_assoc _ _ _) fun _ h => h
theorem there_gate : There gateR (fun c => gateB c.1 c.2.1 c.2.2.1 c.2.2.2.1 c.2.2.2.2) (fun c => inI64 c.1 ∧ inI64 c.2.1 ∧ inI64 c.2.2.1 ∧ inI64 c.2.2.2.1) :=
  there_then (p1 := fun c : Int × Int × Int × Int × Bool => (c.1, c.2.1)) (p2 := fun c => c.2.2) there_place
    (there_then (o := fun c : Int × Int × Bool => inI64 c.1 ∧ inI64 c.2.1) (e := fun c : Int × Int × Bool => ptB c.1 c.2.1 ++ flB c.2.2) (p1 := fun c : Int × Int × Bool => (c.1, c.2.1)) (p2 := fun c => c.2.2) there_place there_flag (fun _ => rfl) (fun _ => rfl) fun _ h => ⟨h, trivial⟩) (fun _ => rfl)
    (fun _ => List.append_assoc _ _ _) fun _ h => ⟨⟨h.1, h.2.1⟩, h.2.2⟩
/-- A row's parts, as bytes. -/
def catL {α : Type} (e : α → List Int) : List α → List Int
  | [] => []
  | a :: l => e a ++ catL e l
theorem catL_append {α : Type} (e : α → List Int) : ∀ l m : List α, catL e (l ++ m) = catL e l ++ catL e m
  | [], m => rfl
  | a :: l, m => by show e a ++ catL e (l ++ m) = e a ++ catL e l ++ catL e m; rw [catL_append e l m, List.append_assoc]
/-- A list by its end. -/
theorem snoc_ind {α : Type} {P : List α → Prop} (h0 : P []) (h1 : ∀ l a, P l → P (l ++ [a])) (l : List α) : P l := by
  have : ∀ m : List α, P m.reverse := fun m => by
    induction m with
    | nil => exact h0
    | cons a m ih => rw [List.reverse_cons]; exact h1 _ _ ih
  have h := this l.reverse
  rwa [List.reverse_reverse] at h
theorem there_take {α : Type} {rd : List Int → Rs → α × Rs} {e : α → List Int} {o : α → Prop} (h : There rd e o) : ∀ (l : List α), (∀ a ∈ l, o a) → ∀ (L R : List Int) (k q : Int), ∃ k', takeR rd l.length (L ++ catL e l ++ R) ⟨(L.length : Int), k, 0, q⟩ = (l, ⟨((L ++ catL e l).length : Int), k', 0, q⟩) := by
  intro l
  refine snoc_ind (P := fun l => (∀ a ∈ l, o a) → ∀ (L R : List Int) (k q : Int), ∃ k', takeR rd l.length (L ++ catL e l ++ R) ⟨(L.length : Int), k, 0, q⟩ = (l, ⟨((L ++ catL e l).length : Int), k', 0, q⟩)) ?_ ?_ l
  · intro _ L R k q
    exact ⟨k, by simp [takeR, catL]⟩
  · intro l a ih ho L R k q
    obtain ⟨k1, h1⟩ := ih (fun b hb => ho b (List.mem_append_left _ hb)) L (e a ++ R) k q
    obtain ⟨k2, h2⟩ := h a (ho a (by simp)) (L ++ catL e l) R k1 q
    refine ⟨k2, ?_⟩
    rw [catL_append, List.length_append]
    have e1 : L ++ (catL e l ++ catL e [a]) ++ R = L ++ catL e l ++ (e a ++ R) := by simp [catL]
    have e2 : L ++ catL e l ++ (e a ++ R) = L ++ catL e l ++ e a ++ R := by simp
    show ((takeR rd l.length _ _).1 ++ [(rd _ (takeR rd l.length _ _).2).1], (rd _ (takeR rd l.length _ _).2).2) = _
    rw [e1, h1, e2]
    simp only
    rw [h2]
    simp [catL]
theorem there_many {α : Type} {lo hi : Int} {rd : List Int → Rs → α × Rs} {e : α → List Int} {o : α → Prop} (h : There rd e o) (hh : hi < 65536) : There (manyR lo hi rd) (fun l => le 2 (wd (l.length : Int)) ++ catL e l) (fun l => lo ≤ (l.length : Int) ∧ (l.length : Int) ≤ hi ∧ ∀ a ∈ l, o a) := fun l ⟨h1, h2, h3⟩ L R k q => by
  obtain ⟨k1, e1⟩ := there_count lo hi (l.length : Int) ⟨h1, h2, Int.natCast_nonneg _, by omega⟩ L (catL e l ++ R) k q
  obtain ⟨k2, e2⟩ := there_take h l h3 (L ++ le 2 (wd (l.length : Int))) R k1 q
  refine ⟨k2, ?_⟩
  have e3 : L ++ (le 2 (wd (l.length : Int)) ++ catL e l) ++ R = L ++ le 2 (wd (l.length : Int)) ++ (catL e l ++ R) := by simp
  have e4 : L ++ le 2 (wd (l.length : Int)) ++ catL e l ++ R = L ++ le 2 (wd (l.length : Int)) ++ (catL e l ++ R) := by simp
  rw [e3]
  rw [e4] at e2
  have e5 := manyR_eq (lo := lo) (hi := hi) (rd := rd) (l := l) e1 (by rw [Int.toNat_natCast]; exact e2)
  rw [e5, List.append_assoc]
theorem there_rail : There railR (fun l => le 2 (wd (l.length : Int)) ++ catL (fun c => ptB c.1 c.2) l) (fun l => 2 ≤ (l.length : Int) ∧ (l.length : Int) ≤ 64 ∧ ∀ c ∈ l, inI64 c.1 ∧ inI64 c.2) := there_many there_place (by decide)
theorem there_head : There headR (fun x => le 8 (wd x)) (fun x => 0 ≤ x ∧ x ≤ 4294967295) := fun x hx L R l q => by
  obtain ⟨l1, h1⟩ := there_num x (show -9223372036854775808 ≤ x ∧ x ≤ 9223372036854775807 by omega) L R l q
  refine ⟨l1, ?_⟩
  unfold headR
  simp only [h1]
  rw [decide_eq_false (by omega), decide_eq_false (by omega)]
  rfl
/-! ### All of it. -/
def tlB (t : TL) : List Int :=
  [67, 72, 84, 82] ++ le 2 (wd t.rate) ++ le 8 (wd t.cell) ++ le 2 (wd t.cols) ++ le 2 (wd t.rows) ++ ptB t.corner.1 t.corner.2 ++ catL (fun x => le 8 (wd x)) t.heights ++ catL (fun x => le 2 (wd x)) t.ground ++
  (le 2 (wd (t.kinds.length : Int)) ++ catL (fun c => kindB c.1 c.2.1 c.2.2) t.kinds) ++ (le 2 (wd (t.line.length : Int)) ++ catL (fun c => ptB c.1 c.2) t.line) ++
  (le 2 (wd (t.rails.length : Int)) ++ catL (fun l => le 2 (wd (l.length : Int)) ++ catL (fun c => ptB c.1 c.2) l) t.rails) ++
  (le 2 (wd (t.gates.length : Int)) ++ catL (fun c => gateB c.1 c.2.1 c.2.2.1 c.2.2.2.1 c.2.2.2.2) t.gates) ++ ptB t.start.1 t.start.2 ++ le 8 (wd t.head) ++ le 2 (wd t.laps)
structure tlOk (t : TL) : Prop where
  rate : 60 ≤ t.rate ∧ t.rate ≤ 1024
  cell : inI64 t.cell
  cols : 1 ≤ t.cols ∧ t.cols ≤ 64
  rows : 1 ≤ t.rows ∧ t.rows ≤ 64
  corner : inI64 t.corner.1 ∧ inI64 t.corner.2
  nh : (nHs t.cols t.rows).toNat = t.heights.length
  heights : ∀ x ∈ t.heights, inI64 x
  ng : (nGs t.cols t.rows).toNat = t.ground.length
  ground : ∀ x ∈ t.ground, 0 ≤ x ∧ x ≤ 7
  kinds : 1 ≤ (t.kinds.length : Int) ∧ (t.kinds.length : Int) ≤ 8 ∧ ∀ c ∈ t.kinds, inI64 c.1 ∧ inI64 c.2.1
  line : 3 ≤ (t.line.length : Int) ∧ (t.line.length : Int) ≤ 64 ∧ ∀ c ∈ t.line, inI64 c.1 ∧ inI64 c.2
  rails : 0 ≤ (t.rails.length : Int) ∧ (t.rails.length : Int) ≤ 16 ∧ ∀ l ∈ t.rails, 2 ≤ (l.length : Int) ∧ (l.length : Int) ≤ 64 ∧ ∀ c ∈ l, inI64 c.1 ∧ inI64 c.2
  gates : 1 ≤ (t.gates.length : Int) ∧ (t.gates.length : Int) ≤ 16 ∧ ∀ c ∈ t.gates, inI64 c.1 ∧ inI64 c.2.1 ∧ inI64 c.2.2.1 ∧ inI64 c.2.2.2.1
  start : inI64 t.start.1 ∧ inI64 t.start.2
  head : 0 ≤ t.head ∧ t.head ≤ 4294967295
  laps : 1 ≤ t.laps ∧ t.laps ≤ 100
theorem at_mark (R : List Int) : ∃ l', markR [67, 72, 84, 82] ([67, 72, 84, 82] ++ R) ⟨0, 0, 0, 0⟩ = ((), ⟨4, l', 0, 0⟩) := by
  have h := reads_at (L := []) (w := [67, 72, 84, 82]) (R := R) (n := 4) rfl 0 0
  exact ⟨0, by have := mark_some (m := [67, 72, 84, 82]) h; simpa using this⟩
theorem body_there (t : TL) (h : tlOk t) : ∃ l', bodyR (tlB t) ⟨0, 0, 0, 0⟩ = (t, ⟨((tlB t).length : Int), l', 0, 0⟩) := by
  have key : ∀ {α : Type} {rd : List Int → Rs → α × Rs} {e : α → List Int} {o : α → Prop}, There rd e o → ∀ a, o a → ∀ (L R B : List Int) (n : Nat) (l : Int), B = L ++ (e a ++ R) → n = L.length → ∃ l', rd B ⟨(n : Int), l, 0, 0⟩ = (a, ⟨((L ++ e a).length : Int), l', 0, 0⟩) := by
    intro α rd e o ht a ha L R B n l hB hn
    subst hB; subst hn
    rw [← List.append_assoc]
    exact ht a ha L R l 0
  have keyT : ∀ {α : Type} {rd : List Int → Rs → α × Rs} {e : α → List Int} {o : α → Prop}, There rd e o → ∀ (a : List α) (m : Nat), m = a.length → (∀ x ∈ a, o x) → ∀ (L R B : List Int) (n : Nat) (l : Int), B = L ++ (catL e a ++ R) → n = L.length → ∃ l', takeR rd m B ⟨(n : Int), l, 0, 0⟩ = (a, ⟨((L ++ catL e a).length : Int), l', 0, 0⟩) := by
    intro α rd e o ht a m hm ha L R B n l hB hn
    subst hB; subst hn; subst hm
    rw [← List.append_assoc]
    exact there_take ht a ha L R l 0
  obtain ⟨l0, e0⟩ := at_mark ((tlB t).drop 4)
  have hd : [67, 72, 84, 82] ++ (tlB t).drop 4 = tlB t := by unfold tlB; simp only [List.append_assoc]; rfl
  rw [hd] at e0
  obtain ⟨l1, e1⟩ := key (there_count 60 1024) t.rate ⟨h.rate.1, h.rate.2, by have := h.rate; omega, by have := h.rate; omega⟩ (([67, 72, 84, 82] : List Int)) (le 8 (wd t.cell) ++ (le 2 (wd t.cols) ++ (le 2 (wd t.rows) ++ (ptB t.corner.1 t.corner.2 ++ (catL (fun x => le 8 (wd x)) t.heights ++ (catL (fun x => le 2 (wd x)) t.ground ++ ((le 2 (wd (t.kinds.length : Int)) ++ catL (fun c => kindB c.1 c.2.1 c.2.2) t.kinds) ++ ((le 2 (wd (t.line.length : Int)) ++ catL (fun c => ptB c.1 c.2) t.line) ++ ((le 2 (wd (t.rails.length : Int)) ++ catL (fun l => le 2 (wd (l.length : Int)) ++ catL (fun c => ptB c.1 c.2) l) t.rails) ++ ((le 2 (wd (t.gates.length : Int)) ++ catL (fun c => gateB c.1 c.2.1 c.2.2.1 c.2.2.2.1 c.2.2.2.2) t.gates) ++ (ptB t.start.1 t.start.2 ++ (le 8 (wd t.head) ++ (le 2 (wd t.laps)))))))))))))) (tlB t) _ l0 (by unfold tlB; simp only [List.append_assoc, List.append_nil]) rfl
  obtain ⟨l2, e2⟩ := key there_num t.cell h.cell (([67, 72, 84, 82] : List Int) ++ le 2 (wd t.rate)) (le 2 (wd t.cols) ++ (le 2 (wd t.rows) ++ (ptB t.corner.1 t.corner.2 ++ (catL (fun x => le 8 (wd x)) t.heights ++ (catL (fun x => le 2 (wd x)) t.ground ++ ((le 2 (wd (t.kinds.length : Int)) ++ catL (fun c => kindB c.1 c.2.1 c.2.2) t.kinds) ++ ((le 2 (wd (t.line.length : Int)) ++ catL (fun c => ptB c.1 c.2) t.line) ++ ((le 2 (wd (t.rails.length : Int)) ++ catL (fun l => le 2 (wd (l.length : Int)) ++ catL (fun c => ptB c.1 c.2) l) t.rails) ++ ((le 2 (wd (t.gates.length : Int)) ++ catL (fun c => gateB c.1 c.2.1 c.2.2.1 c.2.2.2.1 c.2.2.2.2) t.gates) ++ (ptB t.start.1 t.start.2 ++ (le 8 (wd t.head) ++ (le 2 (wd t.laps))))))))))))) (tlB t) _ l1 (by unfold tlB; simp only [List.append_assoc, List.append_nil]) rfl
  obtain ⟨l3, e3⟩ := key (there_count 1 64) t.cols ⟨h.cols.1, h.cols.2, by have := h.cols; omega, by have := h.cols; omega⟩ (([67, 72, 84, 82] : List Int) ++ le 2 (wd t.rate) ++ le 8 (wd t.cell)) (le 2 (wd t.rows) ++ (ptB t.corner.1 t.corner.2 ++ (catL (fun x => le 8 (wd x)) t.heights ++ (catL (fun x => le 2 (wd x)) t.ground ++ ((le 2 (wd (t.kinds.length : Int)) ++ catL (fun c => kindB c.1 c.2.1 c.2.2) t.kinds) ++ ((le 2 (wd (t.line.length : Int)) ++ catL (fun c => ptB c.1 c.2) t.line) ++ ((le 2 (wd (t.rails.length : Int)) ++ catL (fun l => le 2 (wd (l.length : Int)) ++ catL (fun c => ptB c.1 c.2) l) t.rails) ++ ((le 2 (wd (t.gates.length : Int)) ++ catL (fun c => gateB c.1 c.2.1 c.2.2.1 c.2.2.2.1 c.2.2.2.2) t.gates) ++ (ptB t.start.1 t.start.2 ++ (le 8 (wd t.head) ++ (le 2 (wd t.laps)))))))))))) (tlB t) _ l2 (by unfold tlB; simp only [List.append_assoc, List.append_nil]) rfl
  obtain ⟨l4, e4⟩ := key (there_count 1 64) t.rows ⟨h.rows.1, h.rows.2, by have := h.rows; omega, by have := h.rows; omega⟩ (([67, 72, 84, 82] : List Int) ++ le 2 (wd t.rate) ++ le 8 (wd t.cell) ++ le 2 (wd t.cols)) (ptB t.corner.1 t.corner.2 ++ (catL (fun x => le 8 (wd x)) t.heights ++ (catL (fun x => le 2 (wd x)) t.ground ++ ((le 2 (wd (t.kinds.length : Int)) ++ catL (fun c => kindB c.1 c.2.1 c.2.2) t.kinds) ++ ((le 2 (wd (t.line.length : Int)) ++ catL (fun c => ptB c.1 c.2) t.line) ++ ((le 2 (wd (t.rails.length : Int)) ++ catL (fun l => le 2 (wd (l.length : Int)) ++ catL (fun c => ptB c.1 c.2) l) t.rails) ++ ((le 2 (wd (t.gates.length : Int)) ++ catL (fun c => gateB c.1 c.2.1 c.2.2.1 c.2.2.2.1 c.2.2.2.2) t.gates) ++ (ptB t.start.1 t.start.2 ++ (le 8 (wd t.head) ++ (le 2 (wd t.laps))))))))))) (tlB t) _ l3 (by unfold tlB; simp only [List.append_assoc, List.append_nil]) rfl
  obtain ⟨l5, e5⟩ := key there_place t.corner h.corner (([67, 72, 84, 82] : List Int) ++ le 2 (wd t.rate) ++ le 8 (wd t.cell) ++ le 2 (wd t.cols) ++ le 2 (wd t.rows)) (catL (fun x => le 8 (wd x)) t.heights ++ (catL (fun x => le 2 (wd x)) t.ground ++ ((le 2 (wd (t.kinds.length : Int)) ++ catL (fun c => kindB c.1 c.2.1 c.2.2) t.kinds) ++ ((le 2 (wd (t.line.length : Int)) ++ catL (fun c => ptB c.1 c.2) t.line) ++ ((le 2 (wd (t.rails.length : Int)) ++ catL (fun l => le 2 (wd (l.length : Int)) ++ catL (fun c => ptB c.1 c.2) l) t.rails) ++ ((le 2 (wd (t.gates.length : Int)) ++ catL (fun c => gateB c.1 c.2.1 c.2.2.1 c.2.2.2.1 c.2.2.2.2) t.gates) ++ (ptB t.start.1 t.start.2 ++ (le 8 (wd t.head) ++ (le 2 (wd t.laps)))))))))) (tlB t) _ l4 (by unfold tlB; simp only [List.append_assoc, List.append_nil]) rfl
  obtain ⟨l6, e6⟩ := keyT there_num t.heights _ h.nh h.heights (([67, 72, 84, 82] : List Int) ++ le 2 (wd t.rate) ++ le 8 (wd t.cell) ++ le 2 (wd t.cols) ++ le 2 (wd t.rows) ++ ptB t.corner.1 t.corner.2) (catL (fun x => le 2 (wd x)) t.ground ++ ((le 2 (wd (t.kinds.length : Int)) ++ catL (fun c => kindB c.1 c.2.1 c.2.2) t.kinds) ++ ((le 2 (wd (t.line.length : Int)) ++ catL (fun c => ptB c.1 c.2) t.line) ++ ((le 2 (wd (t.rails.length : Int)) ++ catL (fun l => le 2 (wd (l.length : Int)) ++ catL (fun c => ptB c.1 c.2) l) t.rails) ++ ((le 2 (wd (t.gates.length : Int)) ++ catL (fun c => gateB c.1 c.2.1 c.2.2.1 c.2.2.2.1 c.2.2.2.2) t.gates) ++ (ptB t.start.1 t.start.2 ++ (le 8 (wd t.head) ++ (le 2 (wd t.laps))))))))) (tlB t) _ l5 (by unfold tlB; simp only [List.append_assoc, List.append_nil]) rfl
  obtain ⟨l7, e7⟩ := keyT (there_count 0 7) t.ground _ h.ng (fun x hx => ⟨(h.ground x hx).1, (h.ground x hx).2, (h.ground x hx).1, by have := h.ground x hx; omega⟩) (([67, 72, 84, 82] : List Int) ++ le 2 (wd t.rate) ++ le 8 (wd t.cell) ++ le 2 (wd t.cols) ++ le 2 (wd t.rows) ++ ptB t.corner.1 t.corner.2 ++ catL (fun x => le 8 (wd x)) t.heights) ((le 2 (wd (t.kinds.length : Int)) ++ catL (fun c => kindB c.1 c.2.1 c.2.2) t.kinds) ++ ((le 2 (wd (t.line.length : Int)) ++ catL (fun c => ptB c.1 c.2) t.line) ++ ((le 2 (wd (t.rails.length : Int)) ++ catL (fun l => le 2 (wd (l.length : Int)) ++ catL (fun c => ptB c.1 c.2) l) t.rails) ++ ((le 2 (wd (t.gates.length : Int)) ++ catL (fun c => gateB c.1 c.2.1 c.2.2.1 c.2.2.2.1 c.2.2.2.2) t.gates) ++ (ptB t.start.1 t.start.2 ++ (le 8 (wd t.head) ++ (le 2 (wd t.laps)))))))) (tlB t) _ l6 (by unfold tlB; simp only [List.append_assoc, List.append_nil]) rfl
  obtain ⟨l8, e8⟩ := key (there_many (lo := 1) (hi := 8) there_kind (by decide)) t.kinds h.kinds (([67, 72, 84, 82] : List Int) ++ le 2 (wd t.rate) ++ le 8 (wd t.cell) ++ le 2 (wd t.cols) ++ le 2 (wd t.rows) ++ ptB t.corner.1 t.corner.2 ++ catL (fun x => le 8 (wd x)) t.heights ++ catL (fun x => le 2 (wd x)) t.ground) ((le 2 (wd (t.line.length : Int)) ++ catL (fun c => ptB c.1 c.2) t.line) ++ ((le 2 (wd (t.rails.length : Int)) ++ catL (fun l => le 2 (wd (l.length : Int)) ++ catL (fun c => ptB c.1 c.2) l) t.rails) ++ ((le 2 (wd (t.gates.length : Int)) ++ catL (fun c => gateB c.1 c.2.1 c.2.2.1 c.2.2.2.1 c.2.2.2.2) t.gates) ++ (ptB t.start.1 t.start.2 ++ (le 8 (wd t.head) ++ (le 2 (wd t.laps))))))) (tlB t) _ l7 (by unfold tlB; simp only [List.append_assoc, List.append_nil]) rfl
  obtain ⟨l9, e9⟩ := key (there_many (lo := 3) (hi := 64) there_place (by decide)) t.line h.line (([67, 72, 84, 82] : List Int) ++ le 2 (wd t.rate) ++ le 8 (wd t.cell) ++ le 2 (wd t.cols) ++ le 2 (wd t.rows) ++ ptB t.corner.1 t.corner.2 ++ catL (fun x => le 8 (wd x)) t.heights ++ catL (fun x => le 2 (wd x)) t.ground ++ (le 2 (wd (t.kinds.length : Int)) ++ catL (fun c => kindB c.1 c.2.1 c.2.2) t.kinds)) ((le 2 (wd (t.rails.length : Int)) ++ catL (fun l => le 2 (wd (l.length : Int)) ++ catL (fun c => ptB c.1 c.2) l) t.rails) ++ ((le 2 (wd (t.gates.length : Int)) ++ catL (fun c => gateB c.1 c.2.1 c.2.2.1 c.2.2.2.1 c.2.2.2.2) t.gates) ++ (ptB t.start.1 t.start.2 ++ (le 8 (wd t.head) ++ (le 2 (wd t.laps)))))) (tlB t) _ l8 (by unfold tlB; simp only [List.append_assoc, List.append_nil]) rfl
  obtain ⟨m1, f1⟩ := key (there_many (lo := 0) (hi := 16) there_rail (by decide)) t.rails h.rails (([67, 72, 84, 82] : List Int) ++ le 2 (wd t.rate) ++ le 8 (wd t.cell) ++ le 2 (wd t.cols) ++ le 2 (wd t.rows) ++ ptB t.corner.1 t.corner.2 ++ catL (fun x => le 8 (wd x)) t.heights ++ catL (fun x => le 2 (wd x)) t.ground ++ (le 2 (wd (t.kinds.length : Int)) ++ catL (fun c => kindB c.1 c.2.1 c.2.2) t.kinds) ++ (le 2 (wd (t.line.length : Int)) ++ catL (fun c => ptB c.1 c.2) t.line)) ((le 2 (wd (t.gates.length : Int)) ++ catL (fun c => gateB c.1 c.2.1 c.2.2.1 c.2.2.2.1 c.2.2.2.2) t.gates) ++ (ptB t.start.1 t.start.2 ++ (le 8 (wd t.head) ++ (le 2 (wd t.laps))))) (tlB t) _ l9 (by unfold tlB; simp only [List.append_assoc, List.append_nil]) rfl
  obtain ⟨m2, f2⟩ := key (there_many (lo := 1) (hi := 16) there_gate (by decide)) t.gates h.gates (([67, 72, 84, 82] : List Int) ++ le 2 (wd t.rate) ++ le 8 (wd t.cell) ++ le 2 (wd t.cols) ++ le 2 (wd t.rows) ++ ptB t.corner.1 t.corner.2 ++ catL (fun x => le 8 (wd x)) t.heights ++ catL (fun x => le 2 (wd x)) t.ground ++ (le 2 (wd (t.kinds.length : Int)) ++ catL (fun c => kindB c.1 c.2.1 c.2.2) t.kinds) ++ (le 2 (wd (t.line.length : Int)) ++ catL (fun c => ptB c.1 c.2) t.line) ++ (le 2 (wd (t.rails.length : Int)) ++ catL (fun l => le 2 (wd (l.length : Int)) ++ catL (fun c => ptB c.1 c.2) l) t.rails)) (ptB t.start.1 t.start.2 ++ (le 8 (wd t.head) ++ (le 2 (wd t.laps)))) (tlB t) _ m1 (by unfold tlB; simp only [List.append_assoc, List.append_nil]) rfl
  obtain ⟨m3, f3⟩ := key there_place t.start h.start (([67, 72, 84, 82] : List Int) ++ le 2 (wd t.rate) ++ le 8 (wd t.cell) ++ le 2 (wd t.cols) ++ le 2 (wd t.rows) ++ ptB t.corner.1 t.corner.2 ++ catL (fun x => le 8 (wd x)) t.heights ++ catL (fun x => le 2 (wd x)) t.ground ++ (le 2 (wd (t.kinds.length : Int)) ++ catL (fun c => kindB c.1 c.2.1 c.2.2) t.kinds) ++ (le 2 (wd (t.line.length : Int)) ++ catL (fun c => ptB c.1 c.2) t.line) ++ (le 2 (wd (t.rails.length : Int)) ++ catL (fun l => le 2 (wd (l.length : Int)) ++ catL (fun c => ptB c.1 c.2) l) t.rails) ++ (le 2 (wd (t.gates.length : Int)) ++ catL (fun c => gateB c.1 c.2.1 c.2.2.1 c.2.2.2.1 c.2.2.2.2) t.gates)) (le 8 (wd t.head) ++ (le 2 (wd t.laps))) (tlB t) _ m2 (by unfold tlB; simp only [List.append_assoc, List.append_nil]) rfl
  obtain ⟨m4, f4⟩ := key there_head t.head h.head (([67, 72, 84, 82] : List Int) ++ le 2 (wd t.rate) ++ le 8 (wd t.cell) ++ le 2 (wd t.cols) ++ le 2 (wd t.rows) ++ ptB t.corner.1 t.corner.2 ++ catL (fun x => le 8 (wd x)) t.heights ++ catL (fun x => le 2 (wd x)) t.ground ++ (le 2 (wd (t.kinds.length : Int)) ++ catL (fun c => kindB c.1 c.2.1 c.2.2) t.kinds) ++ (le 2 (wd (t.line.length : Int)) ++ catL (fun c => ptB c.1 c.2) t.line) ++ (le 2 (wd (t.rails.length : Int)) ++ catL (fun l => le 2 (wd (l.length : Int)) ++ catL (fun c => ptB c.1 c.2) l) t.rails) ++ (le 2 (wd (t.gates.length : Int)) ++ catL (fun c => gateB c.1 c.2.1 c.2.2.1 c.2.2.2.1 c.2.2.2.2) t.gates) ++ ptB t.start.1 t.start.2) (le 2 (wd t.laps)) (tlB t) _ m3 (by unfold tlB; simp only [List.append_assoc, List.append_nil]) rfl
  obtain ⟨m5, f5⟩ := key (there_count 1 100) t.laps ⟨h.laps.1, h.laps.2, by have := h.laps; omega, by have := h.laps; omega⟩ (([67, 72, 84, 82] : List Int) ++ le 2 (wd t.rate) ++ le 8 (wd t.cell) ++ le 2 (wd t.cols) ++ le 2 (wd t.rows) ++ ptB t.corner.1 t.corner.2 ++ catL (fun x => le 8 (wd x)) t.heights ++ catL (fun x => le 2 (wd x)) t.ground ++ (le 2 (wd (t.kinds.length : Int)) ++ catL (fun c => kindB c.1 c.2.1 c.2.2) t.kinds) ++ (le 2 (wd (t.line.length : Int)) ++ catL (fun c => ptB c.1 c.2) t.line) ++ (le 2 (wd (t.rails.length : Int)) ++ catL (fun l => le 2 (wd (l.length : Int)) ++ catL (fun c => ptB c.1 c.2) l) t.rails) ++ (le 2 (wd (t.gates.length : Int)) ++ catL (fun c => gateB c.1 c.2.1 c.2.2.1 c.2.2.2.1 c.2.2.2.2) t.gates) ++ ptB t.start.1 t.start.2 ++ le 8 (wd t.head)) ([]) (tlB t) _ m4 (by unfold tlB; simp only [List.append_assoc, List.append_nil]) rfl
  refine ⟨m5, ?_⟩
  have := bodyR_eq e0 e1 e2 e3 e4 e5 e6 e7 e8 e9 f1 f2 f3 f4 f5
  rw [this]
  congr 2
end Go.Se

/- A track's bytes, there and back: from bytes to bytes, and from tracks to lists. -/
namespace Go.Se

/-- What is read is what would be written. -/
def From {α : Type} (rd : List Int → Rs → α × Rs) (enc : α → List Int) : Prop :=
  ∀ B s, bytesOk B → rdOk B s → (rd B s).2.err = 0 → s.err = 0 ∧ B.take (rd B s).2.pos.toNat = B.take s.pos.toNat ++ enc (rd B s).1
end Go.Se

