/- To tell less: a row of one's own that nobody turns any more is told as such. -/
import Derived.Test.YtbedljhbakdghaaGreatDoorSeWire
import Derived.Test.YtbedljhbakdghaaGreatDoorSeBm
namespace Go.Se
variable {P : Program}

/-- What is frozen: a temporary, or a cell of the block that a temporary leads to by a way; and an element (what is told behind the end). -/
structure Fz where
  t : Nat
  p : List Nat
  k : Option Nat
  df : List SV

def fzN (df : List SV) : Nat → List SV := fun _ => df
def fzG (n len : Nat) (df : List SV) (g : Nat → List SV) : Nat → List SV := fun i => bif Nat.blt i n then g i else bif Nat.blt i len then [] else df
/-- A row of one's own, frozen; and the block that is given away. -/
def fzVal (s : Store) (df : List SV) : SV → Option (SV × Option Nat)
  | .nils => some (.ro 0 df.length (fzN df), none)
  | .ro n st g => some (.ro n st g, none)
  | .own b 0 st' len => match look s b with
    | some (.row _ st'' n g) => bif Nat.beq st'' st' then some (.ro len st' (fzG n len df g), some b) else none
    | _ => none
  | _ => none
def setNth : List SV → Nat → SV → List SV
  | [], _, _ => []
  | _ :: cs, 0, v => v :: cs
  | c :: cs, k + 1, v => c :: setNth cs k v
def dropB (n0 : Nat) (s : Store) : Option Nat → Option Store
  | none => some s
  | some b => bif Nat.ble n0 b then some ((b, none) :: s) else none
def fz1 (n0 : Nat) : Fz → St → Option St
  | ⟨t, p, ko, df⟩, s => match ko with
    | none => match fzVal s.store df (get s.tmps t) with
      | some (v, d) => match dropB n0 s.store d with
        | some r => some ⟨(t, v) :: s.tmps, r, s.nxt, s.dirty, s.nt⟩
        | none => none
      | none => none
    | some k => match idOf (valAt s.store (get s.tmps t) p) with
      | some i => match look s.store i with
        | some (.cells e cs) => match fzVal s.store df (nth cs k) with
          | some (v, d) => match dropB n0 ((i, some (.cells e (setNth cs k v))) :: s.store) d with
            | some r => some ⟨s.tmps, r, s.nxt, s.dirty, s.nt⟩
            | none => none
          | none => none
        | _ => none
      | none => none
def fzP (n0 : Nat) : List Fz → St → Option St
  | [], s => some s
  | f :: r, s => match fz1 n0 f s with
    | some s => fzP n0 r s
    | none => none

theorem relL_setNth {ρ : Names} {T T2 : Nat → Prop} {w : World} (hm : ∀ (a : SV) (x : Value), rel ρ T w a x → rel ρ T2 w a x) {v : SV} : ∀ (cs : List SV) (k : Nat) (l : List Value), relL ρ T w cs l → (∀ x, rel ρ T w (nth cs k) x → rel ρ T2 w v x) → relL ρ T2 w (setNth cs k v) l
  | [], _, _, h, _ => h
  | c :: cs, 0, _, ⟨x, r, e, h1, h2⟩, hv => ⟨x, r, e, hv x h1, by
      have : ∀ (l : List SV) (m : List Value), relL ρ T w l m → relL ρ T2 w l m := fun l => by
        induction l with
        | nil => exact fun _ h => h
        | cons a l ih => rintro m ⟨y, s, e, h1, h2⟩; exact ⟨y, s, e, hm a y h1, ih s h2⟩
      exact this _ _ h2⟩
  | c :: cs, k + 1, _, ⟨x, r, e, h1, h2⟩, hv => ⟨x, r, e, hm c x h1, relL_setNth hm cs k r h2 hv⟩

theorem look_cons (i : Nat) (o : Option SB) (s : Store) (id : Nat) : look ((i, o) :: s) id = if id = i then o else look s id := by
  simp only [look]
  by_cases h : id = i
  · subst h; simp
  · rw [if_neg h, show Nat.beq i id = false by rw [Bool.eq_false_iff]; intro e; exact h (Nat.eq_of_beq_eq_true e).symm]; rfl

/-- A row, frozen, in a state. -/
theorem fz_val {B : Base P} {tm : Nat → SV} {s : Store} {A : Nat → Prop} {D : List Nat} {nt : Nat} {a : Act} {w : World} {ρ : Names} {T : Nat → Prop} (h : Holds B tm (look s) A D nt a w ρ T)
    {df : List SV} {u v : SV} {d : Option Nat} (hf : fzVal s df u = some (v, d)) (hd : ∀ b, d = some b → B.n ≤ b) :
    ∃ T2 : Nat → Prop, (∀ c, T2 c → T c) ∧ (∀ x, rel ρ T w u x → rel ρ T2 w v x) ∧ (∀ c, T c → T2 c ∨ ∃ b, d = some b ∧ ρ b = some c) ∧ (∀ b, d = some b → (look s b).isSome ∧ (∃ e st n g, look s b = some (.row e st n g)) ∧ ∀ c, ρ b = some c → ¬ T2 c) := by
  unfold fzVal at hf
  split at hf
  · cases hf
    exact ⟨T, fun _ h => h, fun x hx => nils_ro hx, fun c hc => .inl hc, fun b hb => by cases hb⟩
  · cases hf
    exact ⟨T, fun _ h => h, fun x hx => hx, fun c hc => .inl hc, fun b hb => by cases hb⟩
  · rename_i b st' len
    split at hf
    · rename_i e st'' n g hl
      cases hb : Nat.beq st'' st' with
      | false => rw [hb] at hf; cases hf
      | true =>
        rw [hb] at hf
        obtain rfl := Nat.eq_of_beq_eq_true hb
        cases hf
        obtain ⟨_, bb, r1, r2, vs, r3, r4, r5⟩ := h.store b _ hl
        refine ⟨fun c => T c ∧ c ≠ bb, fun _ h => h.1, fun x hx => ?_, fun c hc => ?_, fun b' hb' => ?_⟩
        · obtain ⟨b1, c, e1, rfl, e3, e4, _⟩ := hx
          rw [r1] at e1; cases e1
          refine ⟨some ⟨bb, 0 * st'', none⟩, c, rfl, ⟨e3, by omega, fun he => by cases he⟩, fun hlen => ⟨bb, 0, by rw [Nat.zero_mul], (Array.getElem?_eq_some_iff.1 r3).1, fun ht => ht.2 rfl, fun i hi => ?_⟩⟩
          show relAt _ w (bif Nat.blt i n then g i else bif Nat.blt i len then [] else df) bb _
          cases hin : Nat.blt i n with
          | false =>
            rw [show Nat.blt i len = true by simpa using hi]
            exact trivial
          | true =>
            have hin : i < n := by simpa using hin
            have hr := relL_mono (T' := fun c => T c ∧ c ≠ bb) (fun _ _ h => h) (fun _ _ h => h.1) (Grow.refl T w) _ _ (r5 i hin)
            rw [Nat.zero_add]
            refine relAt_cells hr fun j u hj => ?_
            rw [cell_of r3]
            rw [List.getElem?_take] at hj
            split at hj
            · rw [List.getElem?_drop] at hj
              simpa using hj
            · cases hj
        · by_cases hc2 : c = bb
          · exact .inr ⟨b, rfl, by rw [hc2]; exact r1⟩
          · exact .inl ⟨hc, hc2⟩
        · cases hb'
          refine ⟨by rw [hl]; rfl, ⟨_, _, _, _, hl⟩, fun c hc => ?_⟩
          rw [r1] at hc; cases hc
          exact fun ht => ht.2 rfl
    · cases hf
  · cases hf

theorem fz_holds {B : Base P} {tm tm2 : Nat → SV} {s s2 r : Store} {A : Nat → Prop} {D : List Nat} {nt : Nat} {a : Act} {w : World} {ρ : Names} {T T2 : Nat → Prop} (h : Holds B tm (look s) A D nt a w ρ T) {d : Option Nat}
    (hT : ∀ c, T2 c → T c) (hback : ∀ c, T c → T2 c ∨ ∃ b, d = some b ∧ ρ b = some c) (hd : ∀ b, d = some b → (look s b).isSome ∧ B.n ≤ b ∧ ∀ c, ρ b = some c → ¬ T2 c)
    (ht : ∀ t, rel ρ T2 w (tm2 t) (a.tmps.getD t undef)) (hs : ∀ id sb, look s2 id = some sb → (look s id).isSome ∧ ∀ c, ρ id = some c → relB ρ T2 w sb c) (hn : ∀ id, look s id = none → look s2 id = none)
    (hr : dropB B.n s2 d = some r) : Holds B tm2 (look r) A D nt a w ρ T2 := by
  have hlook : ∀ id, look r id = look s2 id ∨ (d = some id ∧ look r id = none) := fun id => by
    unfold dropB at hr
    split at hr
    · cases hr; exact .inl rfl
    · rename_i b
      cases hc : Nat.ble B.n b with
      | false => rw [hc] at hr; cases hr
      | true =>
        rw [hc] at hr
        cases hr
        rw [look_cons]
        by_cases hid : id = b
        · exact .inr ⟨by rw [hid], if_pos hid⟩
        · exact .inl (if_neg hid)
  have hnone : ∀ id, look s id = none → look r id = none := fun id hid => by
    rcases hlook id with h1 | h1
    · rw [h1]; exact hn id hid
    · exact h1.2
  have hsome : ∀ id, (look r id).isSome → (look s id).isSome ∧ d ≠ some id := fun id hid => by
    obtain ⟨sb, hsb⟩ := Option.isSome_iff_exists.1 hid
    rcases hlook id with h1 | h1
    · refine ⟨(hs id sb (by rw [← h1]; exact hsb)).1, fun hd2 => ?_⟩
      subst hd2
      unfold dropB at hr
      simp only at hr
      cases hc : Nat.ble B.n id with
      | false => rw [hc] at hr; cases hr
      | true =>
        rw [hc] at hr
        cases hr
        rw [look_cons, if_pos rfl] at hsb; cases hsb
    · rw [h1.2] at hsb; cases hsb
  exact {
    defers := h.defers
    size := h.size
    tmps := ht
    store := fun id sb hid => by
      obtain ⟨k1, k2⟩ := hsome id (by rw [hid]; rfl)
      have hid2 : look s2 id = some sb := by
        rcases hlook id with h1 | h1
        · rw [← h1]; exact hid
        · rw [h1.2] at hid; cases hid
      obtain ⟨sb0, hsb0⟩ := Option.isSome_iff_exists.1 k1
      obtain ⟨hA, c, e1, e2, _⟩ := h.store id sb0 hsb0
      refine ⟨hA, c, e1, ?_, (hs id sb hid2).2 c e1⟩
      rcases hback c e2 with h3 | ⟨b, h3, h4⟩
      · exact h3
      · have := h.inj id b c k1 (hd b h3).1 e1 h4
        subst this
        exact absurd h3 k2
    names := h.names
    inj := fun i j c hi hj => h.inj i j c (hsome i hi).1 (hsome j hj).1
    base := h.base
    full := h.full
    grow := h.grow
    old := h.old
    tback := fun c hc ht => h.tback c hc (hT c ht)
    tkeep := fun c hc hbt => by
      rcases h.tkeep c hc hbt with h1 | ⟨q, q1, q2, q3, q4⟩
      · rcases hback c h1 with h2 | ⟨b, h2, h3⟩
        · exact .inl h2
        · obtain ⟨k1, k2, _⟩ := hd b h2
          rcases h.fresh b c k1 k2 h3 with h4 | ⟨q, q1, q2, q3, q4⟩
          · omega
          · exact .inr ⟨q, q1, q2, hnone q q3, q4⟩
      · exact .inr ⟨q, q1, q2, hnone q q3, q4⟩
    fresh := fun id c h1 h2 h3 => (h.fresh id c (hsome id h1).1 h2 h3).imp (fun x => x) fun ⟨q, q1, q2, q3, q4⟩ => ⟨q, q1, q2, hnone q q3, q4⟩
    inv := fun g v hg => ⟨fun ht => (h.inv g v hg).1 (hT _ ht), (h.inv g v hg).2⟩ }

theorem dropB_ge {n0 : Nat} {s r : Store} {d : Option Nat} (h : dropB n0 s d = some r) : ∀ b, d = some b → n0 ≤ b := fun b hb => by
  subst hb
  unfold dropB at h
  simp only at h
  cases hc : Nat.ble n0 b with
  | false => rw [hc] at h; cases h
  | true => exact Nat.le_of_ble_eq_true hc

theorem fz1_less {n0 : Nat} {f : Fz} {s s' : St} (h : fz1 n0 f s = some s') : Less P n0 s s' := by
  rintro B act w rfl ⟨h1, ρ, T, hh⟩
  obtain ⟨ft, fp, fk, fdf⟩ := f
  simp only [fz1] at h
  split at h
  · split at h
    · rename_i v d hv
      split at h
      · rename_i r hr
        cases h
        obtain ⟨T2, k1, k2, k3, k4⟩ := fz_val hh hv (dropB_ge hr)
        have hmono : ∀ (x : SV) (y : Value), rel ρ T w x y → rel ρ T2 w x y := rel_mono (fun _ _ h => h) (fun c _ h => k1 c h) (Grow.refl T w)
        refine ⟨h1, ρ, T2, fz_holds (s2 := s.store) hh k1 k3 (fun b hb => ⟨(k4 b hb).1, dropB_ge hr b hb, (k4 b hb).2.2⟩) (fun t => ?_) (fun id sb hid => ?_) (fun _ h => h) hr⟩
        · simp only [get]
          cases hb : Nat.beq ft t with
          | true =>
            obtain rfl := Nat.eq_of_beq_eq_true hb
            exact k2 _ (hh.tmps _)
          | false => exact hmono _ _ (hh.tmps t)
        · refine ⟨by rw [hid]; rfl, fun c hc => ?_⟩
          obtain ⟨_, c', e1, _, e3⟩ := hh.store id sb hid
          rw [hc] at e1; cases e1
          exact relB_mono (fun _ _ h => h) (fun c _ h => k1 c h) (Grow.refl T w) rfl e3
      · cases h
    · cases h
  · rename_i k
    split at h
    · rename_i i hi
      split at h
      · rename_i e cs hl
        split at h
        · rename_i v d hv
          split at h
          · rename_i r hr
            cases h
            obtain ⟨T2, k1, k2, k3, k4⟩ := fz_val hh hv (dropB_ge hr)
            have hmono : ∀ (x : SV) (y : Value), rel ρ T w x y → rel ρ T2 w x y := rel_mono (fun _ _ h => h) (fun c _ h => k1 c h) (Grow.refl T w)
            refine ⟨h1, ρ, T2, fz_holds (s2 := (i, some (.cells e (setNth cs k v))) :: s.store) hh k1 k3 (fun b hb => ⟨(k4 b hb).1, dropB_ge hr b hb, (k4 b hb).2.2⟩) (fun t => hmono _ _ (hh.tmps t)) (fun id sb hid => ?_) (fun id hid => ?_) hr⟩
            · rw [look_cons] at hid
              by_cases hii : id = i
              · rw [if_pos hii] at hid
                cases hid
                subst hii
                refine ⟨by rw [hl]; rfl, fun c hc => ?_⟩
                obtain ⟨_, c', e1, _, vs, e3, e4⟩ := hh.store id _ hl
                rw [hc] at e1; cases e1
                exact ⟨vs, e3, relL_setNth hmono cs k _ e4 k2⟩
              · rw [if_neg hii] at hid
                refine ⟨by rw [hid]; rfl, fun c hc => ?_⟩
                obtain ⟨_, c', e1, _, e3⟩ := hh.store id sb hid
                rw [hc] at e1; cases e1
                exact relB_mono (fun _ _ h => h) (fun c _ h => k1 c h) (Grow.refl T w) rfl e3
            · rw [look_cons]
              by_cases hii : id = i
              · rw [hii, hl] at hid; cases hid
              · rw [if_neg hii]; exact hid
          · cases h
        · cases h
      · cases h
    · cases h
theorem fzP_less {n0 : Nat} : ∀ (l : List Fz) {s s' : St}, fzP n0 l s = some s' → Less P n0 s s'
  | [], s, s', h => by cases h; exact fun _ _ _ _ h => h
  | f :: r, s, s', h => by
    simp only [fzP] at h
    split at h
    · rename_i s1 hs1
      exact fun B a w hB hn => fzP_less r h B a w hB (fz1_less hs1 B a w hB hn)
    · cases h

/-- A table as before, where rows are frozen, too. -/
structure KeepF where
  k : Keep
  m : List ((Nat × List Nat) × Nat) := []
  f : List Fz := []
def keepF (R : List (Nat × KeepF)) (n0 blk : Nat) (s : St) : Option St :=
  match R with
  | [] => some s
  | (b, k) :: r => bif Nat.beq b blk then (match moves n0 k.k.mv s with
      | some s => match movesP n0 k.m s with
        | some s => match fzP n0 k.f s with
          | some s => restrict n0 k.k s
          | none => none
        | none => none
      | none => none) else keepF r n0 blk s
theorem keepF_weaker (n0 : Nat) : ∀ R : List (Nat × KeepF), Weaker P n0 (keepF R n0)
  | [], blk, s, s', h => by cases h; exact fun _ _ _ _ h => h
  | (b, k) :: r, blk, s, s', h => by
    simp only [keepF] at h
    cases hb : Nat.beq b blk with
    | true =>
      rw [hb] at h
      simp only [cond_true] at h
      split at h
      · rename_i s1 hs1
        split at h
        · rename_i s2 hs2
          split at h
          · rename_i s3 hs3
            exact fun B a w hB hn => restrict_less h B a w hB (fzP_less _ hs3 B a w hB (movesP_less _ hs2 B a w hB (moves_less _ hs1 B a w hB hn)))
          · cases h
        · cases h
      · cases h
    | false => rw [hb] at h; exact keepF_weaker n0 r blk s s' h
end Go.Se

/- The reference reads as the program does: plain. -/
namespace Go.Se

/-- So many, till an error. -/
def goX {α : Type} (rd : List Int → Rs → α × Rs) (B : List Int) : Nat → List α → Rs → List α × Rs
  | 0, L, s => (L, s)
  | n + 1, L, s => bif s.err == 0 then goX rd B n (L ++ [(rd B s).1]) (rd B s).2 else (L, s)
def takeX {α : Type} (rd : List Int → Rs → α × Rs) (n : Nat) (B : List Int) (s : Rs) : List α × Rs := goX rd B n [] s
def manyX {α : Type} (lo hi : Int) (rd : List Int → Rs → α × Rs) : List Int → Rs → List α × Rs := thenR (countR lo hi) (fun n => takeX rd n.toNat) fun _ l => l
def railX : List Int → Rs → List (Int × Int) × Rs := manyX 2 64 placeR
/-- One way of reading does as another, but for what is read behind an error. -/
def Sim {α : Type} (f g : List Int → Rs → α × Rs) : Prop := ∀ B s, (f B s).2 = (g B s).2 ∧ ((g B s).2.err = 0 → (f B s).1 = (g B s).1)
theorem sim_refl {α : Type} (f : List Int → Rs → α × Rs) : Sim f f := fun _ _ => ⟨rfl, fun _ => rfl⟩
theorem take_front {α : Type} {rd : List Int → Rs → α × Rs} (B : List Int) : ∀ (n : Nat) (s : Rs), takeR rd (n + 1) B s = ((rd B s).1 :: (takeR rd n B (rd B s).2).1, (takeR rd n B (rd B s).2).2)
  | 0, s => rfl
  | n + 1, s => by
    show ((takeR rd (n + 1) B s).1 ++ [(rd B (takeR rd (n + 1) B s).2).1], (rd B (takeR rd (n + 1) B s).2).2) = _
    rw [take_front B n s]
    rfl
theorem back_err {α : Type} {rd : List Int → Rs → α × Rs} (h : Reads rd) {B : List Int} {s : Rs} (he : (rd B s).2.err = 0) : s.err = 0 := by
  by_cases e : s.err = 0
  · exact e
  · rw [h.stuck B s e] at he; exact he
theorem goX_sim {α : Type} {f g : List Int → Rs → α × Rs} (hs : Sim f g) (hg : Reads g) (B : List Int) : ∀ (n : Nat) (L : List α) (s : Rs),
    (goX f B n L s).2 = (takeR g n B s).2 ∧ ((takeR g n B s).2.err = 0 → (goX f B n L s).1 = L ++ (takeR g n B s).1)
  | 0, L, s => ⟨rfl, fun _ => by simp [goX, takeR]⟩
  | n + 1, L, s => by
    rw [take_front]
    unfold goX
    by_cases e : s.err = 0
    · rw [show (s.err == 0) = true by rw [e]; rfl, cond_true]
      obtain ⟨h1, h2⟩ := hs B s
      obtain ⟨k1, k2⟩ := goX_sim hs hg B n (L ++ [(f B s).1]) (f B s).2
      rw [h1] at k1 k2 ⊢
      refine ⟨k1, fun he => ?_⟩
      have he1 := back_err (reads_take hg n) he
      rw [k2 he, h2 he1]
      simp
    · rw [show (s.err == 0) = false from beq_false_of_ne e, cond_false]
      have e1 := hg.stuck B s e
      have e2 := (reads_take hg n).stuck B s e
      simp only [e1, e2]
      exact ⟨trivial, fun he => absurd he e⟩
theorem sim_take {α : Type} {f g : List Int → Rs → α × Rs} (hs : Sim f g) (hg : Reads g) (n : Nat) : Sim (takeX f n) (takeR g n) := fun B s => by
  have := goX_sim hs hg B n [] s
  simpa [takeX] using this
theorem sim_many {α : Type} {lo hi : Int} {f g : List Int → Rs → α × Rs} (hs : Sim f g) (hg : Reads g) : Sim (manyX lo hi f) (manyR lo hi g) := fun B s => sim_take hs hg (countR lo hi B s).1.toNat B (countR lo hi B s).2
theorem sim_rail : Sim railX railR := sim_many (sim_refl _) reads_place
/-- All that stands ahead of the end, as the reference reads it. -/
def bodyX (B : List Int) (s : Rs) : TL × Rs :=
  let x0 := markR [67, 72, 84, 82] B s
  let x1 := countR 60 1024 B x0.2
  let x2 := numR B x1.2
  let x3 := countR 1 64 B x2.2
  let x4 := countR 1 64 B x3.2
  let x5 := placeR B x4.2
  let x6 := takeX numR (nHs x3.1 x4.1).toNat B x5.2
  let x7 := takeX (countR 0 7) (nGs x3.1 x4.1).toNat B x6.2
  let x8 := manyX 1 8 kindR B x7.2
  let x9 := manyX 3 64 placeR B x8.2
  let y1 := manyX 0 16 railX B x9.2
  let y2 := manyX 1 16 gateR B y1.2
  let y3 := placeR B y2.2
  let y4 := headR B y3.2
  let y5 := countR 1 100 B y4.2
  (⟨x1.1, x2.1, x3.1, x4.1, x5.1, x6.1, x7.1, x8.1, x9.1, y1.1, y2.1, y3.1, y4.1, y5.1⟩, y5.2)
theorem bodyX_eq {B : List Int} {s s0 s1 s2 s3 s4 s5 s6 s7 s8 s9 t1 t2 t3 t4 t5 : Rs} {u : Unit} {a1 a2 a3 a4 y4 y5 : Int} {a5 y3 : Int × Int} {a6 a7 : List Int} {a8 : List (Int × Int × Bool)} {a9 : List (Int × Int)} {y1 : List (List (Int × Int))} {y2 : List (Int × Int × Int × Int × Bool)}
    (e0 : markR [67, 72, 84, 82] B s = (u, s0)) (e1 : countR 60 1024 B s0 = (a1, s1)) (e2 : numR B s1 = (a2, s2)) (e3 : countR 1 64 B s2 = (a3, s3)) (e4 : countR 1 64 B s3 = (a4, s4)) (e5 : placeR B s4 = (a5, s5))
    (e6 : takeX numR (nHs a3 a4).toNat B s5 = (a6, s6)) (e7 : takeX (countR 0 7) (nGs a3 a4).toNat B s6 = (a7, s7)) (e8 : manyX 1 8 kindR B s7 = (a8, s8)) (e9 : manyX 3 64 placeR B s8 = (a9, s9)) (f1 : manyX 0 16 railX B s9 = (y1, t1))
    (f2 : manyX 1 16 gateR B t1 = (y2, t2)) (f3 : placeR B t2 = (y3, t3)) (f4 : headR B t3 = (y4, t4)) (f5 : countR 1 100 B t4 = (y5, t5)) :
    bodyX B s = (⟨a1, a2, a3, a4, a5, a6, a7, a8, a9, y1, y2, y3, y4, y5⟩, t5) := by
  unfold bodyX
  simp only [e0, e1, e2, e3, e4, e5, e6, e7, e8, e9, f1, f2, f3, f4, f5]
theorem sim_at {α : Type} {f g : List Int → Rs → α × Rs} (hs : Sim f g) {B : List Int} {s s' : Rs} {a : α} (e : g B s = (a, s')) : ∃ b, f B s = (b, s') ∧ (s'.err = 0 → b = a) := by
  obtain ⟨h1, h2⟩ := hs B s
  rw [e] at h1 h2
  exact ⟨(f B s).1, Prod.ext rfl h1, h2⟩
theorem body_sim {B : List Int} {s s' : Rs} {t : TL} (h : bodyR B s = (t, s')) : ∃ u, bodyX B s = (u, s') ∧ (s'.err = 0 → u = t) := by
  obtain ⟨a0, s0, s1, s2, s3, s4, s5, s6, s7, s8, s9, t1, t2, t3, t4, x0, x1, x2, x3, x4, x5, x6, x7, x8, x9, y1, y2, y3, y4, y5⟩ := body_chain h
  obtain ⟨b6, z6, q6⟩ := sim_at (sim_take (sim_refl numR) reads_num _) x6
  obtain ⟨b7, z7, q7⟩ := sim_at (sim_take (sim_refl (countR 0 7)) (reads_count 0 7) _) x7
  obtain ⟨b8, z8, q8⟩ := sim_at (sim_many (sim_refl kindR) reads_kind) x8
  obtain ⟨b9, z9, q9⟩ := sim_at (sim_many (sim_refl placeR) reads_place) x9
  obtain ⟨c1, w1, r1⟩ := sim_at (sim_many sim_rail reads_rail) y1
  obtain ⟨c2, w2, r2⟩ := sim_at (sim_many (sim_refl gateR) reads_gate) y2
  refine ⟨_, bodyX_eq x0 x1 x2 x3 x4 x5 z6 z7 z8 z9 w1 w2 y3 y4 y5, fun he => ?_⟩
  have back : ∀ {α : Type} {rd : List Int → Rs → α × Rs} {s s' : Rs} {a : α}, Reads rd → rd B s = (a, s') → s'.err = 0 → s.err = 0 := fun hr e h0 => back_err hr (B := B) (by rw [e]; exact h0)
  have k4 := back (reads_count 1 100) y5 he
  have k3 := back reads_head y4 k4
  have k2 := back reads_place y3 k3
  have k1 := back (reads_many reads_gate) y2 k2
  have j9 := back (reads_many reads_rail) y1 k1
  have j8 := back (reads_many reads_place) x9 j9
  have j7 := back (reads_many reads_kind) x8 j8
  have j6 := back (reads_take (reads_count 0 7) _) x7 j7
  rw [q6 j6, q7 j7, q8 j8, q9 j9, r1 k1, r2 k2]
/-- What bytes are, as the reference says. -/
theorem decX_eq {B : List Int} {u : TL} {s s1 : Rs} {e : Int × Int} (h1 : bodyX B ⟨0, 0, 0, 0⟩ = (u, s)) (h2 : endR B s = (e, s1)) :
    decO B = bif e.1 != 0 then (TL.zero, e.1, e.2) else bif (rightV u.trk).1 != 0 then (TL.zero, (rightV u.trk).1, (B.length : Int)) else (u, 0, 0) := by
  generalize hx : bodyR B ⟨0, 0, 0, 0⟩ = x
  obtain ⟨t, s'⟩ := x
  obtain ⟨u', e1, e2⟩ := body_sim hx
  rw [h1] at e1
  cases e1
  rw [decO_eq hx h2]
  cases c : e.1 != 0 with
  | true => rfl
  | false =>
    have c' := bne_eq_false_iff_eq.1 c
    have hs : s.err = 0 := by
      by_cases e0 : s.err = 0
      · exact e0
      · exfalso
        have : e.1 = (endR B s).1.1 := by rw [h2]
        rw [this] at c'
        unfold endR at c'
        simp only at c'
        cases d : decide (s.pos < (B.length : Int)) with
        | true =>
          rw [d] at c'
          simp only [cond_true] at c'
          rw [failR_stuck e0] at c'; exact e0 c'
        | false => rw [d] at c'; exact e0 c'
    rw [e2 hs]
end Go.Se

/- Loops that read till an error; what a call leaves beside a block. -/
namespace Go.Se
variable {P : Program}
theorem takeX_loop {env : Env} {W : Nat → St → Option St} {fn : Func} {path : List Nat} {blk : Nat} {KK : Ex → St → Prop} {α : Type} {e st id : Nat} {f : α → List SV} (hf : ∀ x, (f x).length = st) {rd : List Int → Rs → α × Rs} {B : List Int} {s0 : Rs} (hrd : Reads rd) (h0 : rdOk B s0) (n : Nat) (S : Nat → SV → Option SB → Rs → St)
    (hr0 : 0 < n → ∀ s, rdOk B s → s.err = 0 → ∀ X : St → Prop, (∀ a s1, rd B s = (a, s1) → rdOk B s1 → X (S 1 (.own id 0 st 1) (some (.row e st 1 fun i => cut (f a) (i * st) st)) s1)) → roundE env W fn path blk (nextK X KK) (S 0 .nils none s))
    (hr1 : ∀ i, i < n → 0 < i → ∀ s g, rdOk B s → s.err = 0 → ∀ X : St → Prop, (∀ a s1, rd B s = (a, s1) → rdOk B s1 → X (S (i + 1) (.own id 0 st (i + 1)) (some (.row e st (i + 1) (rowPut i (f a) g))) s1)) → roundE env W fn path blk (nextK X KK) (S i (.own id 0 st i) (some (.row e st i g)) s))
    (he : ∀ (i : Nat) (o : SV) (b : Option SB) (L : List α) (s : Rs), (i = n ∨ s.err ≠ 0) → i ≤ n → L.length = i → tellsL e st id f L o b → rdOk B s → takeX rd n B s0 = (L, s) → ∀ X : St → Prop, roundE env W fn path blk (nextK X KK) (S i o b s)) :
    ∃ q, iter (roundE env W fn path blk) KK q (S 0 .nils none s0) := by
  refine ⟨n + 1, ?_⟩
  refine loop_m (env := env) (W := W) (fn := fn) (path := path) (blk := blk) (KK := KK) (A := (Nat × SV × Option SB) × List α × Rs) (fun a => S a.1.1 a.1.2.1 a.1.2.2 a.2.2) (fun a => n - a.1.1)
    (fun a => a.1.1 ≤ n ∧ a.2.1.length = a.1.1 ∧ tellsL e st id f a.2.1 a.1.2.1 a.1.2.2 ∧ rdOk B a.2.2 ∧ goX rd B (n - a.1.1) a.2.1 a.2.2 = takeX rd n B s0) ?_ (n + 1) ((0, .nils, none), [], s0) ⟨Nat.zero_le _, rfl, tells_nil, h0, rfl⟩ (by simp)
  rintro ⟨⟨i, o, b⟩, L, s⟩ ⟨hi, hlen, ht, hs, hgo⟩ X hX
  simp only at hi hlen ht hs hgo hX ⊢
  by_cases hend : i = n ∨ s.err ≠ 0
  · refine he i o b L s hend hi hlen ht hs ?_ X
    rw [← hgo]
    rcases hend with rfl | hne
    · rw [Nat.sub_self]; rfl
    · cases hk : n - i with
      | zero => rfl
      | succ k => unfold goX; rw [show (s.err == 0) = false from beq_false_of_ne hne]; rfl
  · have hin : i < n := by omega
    have he0 : s.err = 0 := by
      by_cases h : s.err = 0
      · exact h
      · exact absurd (.inr h) hend
    have hstep : ∀ a s1, rd B s = (a, s1) → goX rd B (n - (i + 1)) (L ++ [a]) s1 = takeX rd n B s0 := fun a s1 e1 => by
      rw [← hgo, show n - i = (n - (i + 1)) + 1 by omega]
      conv => rhs; unfold goX
      rw [show (s.err == 0) = true by rw [he0]; rfl, cond_true, e1]
    rcases ht with ⟨rfl, rfl, rfl⟩ | ⟨g, hne, rfl, rfl, hg⟩
    · have : i = 0 := hlen.symm
      subst this
      refine hr0 hin s hs he0 X fun a s1 e1 h1 => ?_
      exact hX ((1, .own id 0 st 1, some (.row e st 1 fun i => cut (f a) (i * st) st)), [a], s1) ⟨hin, rfl, tells_first rfl (hf a), h1, hstep a s1 e1⟩ (by simp only; omega)
    · rw [hlen]
      have hpos : 0 < i := by
        rcases Nat.eq_zero_or_pos i with rfl | h
        · exact absurd (List.length_eq_zero_iff.1 hlen) hne
        · exact h
      refine hr1 i hin hpos s g hs he0 X fun a s1 e1 h1 => ?_
      exact hX ((i + 1, .own id 0 st (i + 1), some (.row e st (i + 1) (rowPut i (f a) g))), L ++ [a], s1) ⟨hin, by simp [hlen], tells_push rfl hlen.symm hg, h1, hstep a s1 e1⟩ (by simp only; omega)

/-- A result with all that it leads to, beside a block that was handed in. -/
theorem callOK_frzAllS {k : FuncId} {xs : List SV} {sb : SB} {T0 : TypeId} {cs : List SV} {v : SV} {σ' : List (Option SB)} {d : List Nat} (n : Nat) (hcs : ids.idsL cs = []) (hσ : ∀ p : Nat, σ'[p]? ≠ some none)
    (h : CallOK P k xs [some sb] v (some (.cells T0 cs) :: σ') d) : CallOK P k xs [some sb] (frz n (none :: σ') v) [some (.cells T0 cs)] d := by
  intro ρ T w vals h1 h2 h3 h4
  refine (h ρ T w vals h1 h2 h3 h4).mono fun y w' ⟨ρ', T', hd⟩ => ?_
  obtain ⟨_, b0, _, z1, z2, z3⟩ := h2 0 (by simp)
  have hb0 := (h4.low 0 b0 z1).2
  have z4 := hd.names 0 b0 z1
  have hdead : ∀ q : Nat, ¬ (some (SB.cells T0 cs) :: σ')[q]? = some none := fun q hq => by
    match q, hq with
    | 0, hq => cases hq
    | q + 1, hq => exact hσ q (by simpa using hq)
  have hst : ∀ p s, (none :: σ' : List (Option SB))[p]? = some (some s) → ∃ b, ρ' p = some b ∧ relB ρ' T' w' s b ∧ w.heap.size ≤ b := fun p s hp => by
    match p, hp with
    | 0, hp => cases hp
    | p + 1, hp =>
      obtain ⟨b, e1, _, e3⟩ := hd.store (p + 1) s (by simpa using hp)
      refine ⟨b, e1, e3, ?_⟩
      rcases hd.fresh (p + 1) b (by simp) e1 with h | ⟨q, _, hq, _⟩
      · exact h
      · exact absurd hq (hdead q)
  refine ⟨fun p => if p = 0 then ρ' 0 else none, fun c => T' c ∧ c < w.heap.size, {
    names := fun p c hp => by
      have := (h4.low p c hp).1
      have hp0 : p = 0 := by simp at this; exact this
      subst hp0
      rw [if_pos rfl]; exact hd.names 0 c hp
    only := fun p c hp => by
      by_cases hp0 : p = 0
      · subst hp0; simp
      · rw [if_neg hp0] at hp; cases hp
    len := by simp
    val := rel_mono (fun _ _ h => by cases h) (fun _ _ h => h) (Grow.refl _ _) _ _ (frz_ok hst n v y hd.val)
    store := fun p s hp => by
      match p, hp with
      | 0, hp =>
        cases hp
        obtain ⟨b1, e1, e2, e3⟩ := hd.store 0 _ rfl
        rw [z4] at e1; cases e1
        refine ⟨b0, by rw [if_pos rfl]; exact z4, ⟨e2, hb0⟩, ?_⟩
        obtain ⟨vs0, f1, f2⟩ := e3
        exact ⟨vs0, f1, relL_mono (ρ := fun _ => none) (ρ' := fun p => if p = 0 then ρ' 0 else none) (T := T') (fun _ _ h => by cases h) (fun _ _ h => h.1) (Grow.refl T' w') _ _ (relL_flat _ _ hcs f2)⟩
    fresh := fun p c hp hb => by
      rw [if_neg (by simp at hp; omega)] at hb; cases hb
    inj := fun p q c hp _ hb => by
      rw [if_neg (by simp at hp; omega)] at hb; cases hb
    dirty := hd.dirty
    grow := hd.grow
    tback := fun c hc ht => hd.tback c hc ht.1
    below := fun p c hp => by
      by_cases hp0 : p = 0
      · subst hp0; rw [if_pos rfl] at hp; exact hd.below 0 c hp
      · rw [if_neg hp0] at hp; cases hp
    tkeep := fun c hc ht => by
      rcases hd.tkeep c hc ht with h | ⟨q, _, hq, _⟩
      · exact .inl ⟨h, hc⟩
      · exact absurd hq (hdead q) }⟩
end Go.Se

/- The reference's ground, read: plain. -/
namespace Go.Se
variable {P : Program}
theorem reads_sim {α : Type} {f g : List Int → Rs → α × Rs} (h : Sim f g) (hg : Reads g) : Reads f :=
  ⟨fun B s hs => by rw [(h B s).1]; exact hg.ok B s hs, fun B s e => by rw [(h B s).1]; exact hg.stuck B s e⟩
theorem reads_takeX {α : Type} {rd : List Int → Rs → α × Rs} (h : Reads rd) (n : Nat) : Reads (takeX rd n) := reads_sim (sim_take (sim_refl rd) h n) (reads_take h n)
theorem reads_manyX {α : Type} {lo hi : Int} {rd : List Int → Rs → α × Rs} (h : Reads rd) : Reads (manyX lo hi rd) := reads_sim (sim_many (sim_refl rd) h) (reads_many h)
theorem reads_railX : Reads railX := reads_manyX reads_place
abbrev GX : Type := Unit × Int × Int × Int × Int × (Int × Int) × List Int × List Int × List (Int × Int × Bool)
def gndX : List Int → Rs → GX × Rs :=
  thenR (markR [67, 72, 84, 82]) (fun _ => thenR (countR 60 1024) (fun _ => thenR numR (fun _ => thenR (countR 1 64) (fun a3 => thenR (countR 1 64) (fun a4 => thenR placeR (fun _ =>
    thenR (takeX numR (nHs a3 a4).toNat) (fun _ => thenR (takeX (countR 0 7) (nGs a3 a4).toNat) (fun _ => manyX 1 8 kindR) Prod.mk) Prod.mk) Prod.mk) Prod.mk) Prod.mk) Prod.mk) Prod.mk) Prod.mk
theorem reads_gndX : Reads gndX :=
  reads_then (reads_mark _) fun _ => reads_then (reads_count _ _) fun _ => reads_then reads_num fun _ => reads_then (reads_count _ _) fun _ => reads_then (reads_count _ _) fun _ => reads_then reads_place fun _ =>
    reads_then (reads_takeX reads_num _) fun _ => reads_then (reads_takeX (reads_count _ _) _) fun _ => reads_manyX reads_kind
theorem gndX_eq {B : List Int} {s s0 s1 s2 s3 s4 s5 s6 s7 s8 : Rs} {u : Unit} {a1 a2 a3 a4 : Int} {a5 : Int × Int} {a6 a7 : List Int} {a8 : List (Int × Int × Bool)}
    (e0 : markR [67, 72, 84, 82] B s = (u, s0)) (e1 : countR 60 1024 B s0 = (a1, s1)) (e2 : numR B s1 = (a2, s2)) (e3 : countR 1 64 B s2 = (a3, s3)) (e4 : countR 1 64 B s3 = (a4, s4)) (e5 : placeR B s4 = (a5, s5))
    (e6 : takeX numR (nHs a3 a4).toNat B s5 = (a6, s6)) (e7 : takeX (countR 0 7) (nGs a3 a4).toNat B s6 = (a7, s7)) (e8 : manyX 1 8 kindR B s7 = (a8, s8)) : gndX B s = ((u, a1, a2, a3, a4, a5, a6, a7, a8), s8) :=
  thenR_eq e0 (thenR_eq e1 (thenR_eq e2 (thenR_eq e3 (thenR_eq e4 (thenR_eq e5 (thenR_eq e6 (thenR_eq e7 e8)))))))
theorem thenR_inv {α β γ : Type} {f : List Int → Rs → α × Rs} {g : α → List Int → Rs → β × Rs} {h : α → β → γ} {B : List Int} {s s2 : Rs} {c : γ} (e : thenR f g h B s = (c, s2)) : ∃ a b s1, f B s = (a, s1) ∧ g a B s1 = (b, s2) ∧ h a b = c := by
  cases e
  exact ⟨(f B s).1, (g (f B s).1 B (f B s).2).1, (f B s).2, rfl, rfl, rfl⟩
theorem gndX_chain {B : List Int} {s s8 : Rs} {x : GX} (h : gndX B s = (x, s8)) : ∃ (u : Unit) (a1 a2 a3 a4 : Int) (a5 : Int × Int) (a6 a7 : List Int) (a8 : List (Int × Int × Bool)) (s0 s1 s2 s3 s4 s5 s6 s7 : Rs), x = (u, a1, a2, a3, a4, a5, a6, a7, a8) ∧
    markR [67, 72, 84, 82] B s = (u, s0) ∧ countR 60 1024 B s0 = (a1, s1) ∧ numR B s1 = (a2, s2) ∧ countR 1 64 B s2 = (a3, s3) ∧ countR 1 64 B s3 = (a4, s4) ∧ placeR B s4 = (a5, s5) ∧
    takeX numR (nHs a3 a4).toNat B s5 = (a6, s6) ∧ takeX (countR 0 7) (nGs a3 a4).toNat B s6 = (a7, s7) ∧ manyX 1 8 kindR B s7 = (a8, s8) := by
  obtain ⟨u, b0, s0, e0, h1, rfl⟩ := thenR_inv h
  obtain ⟨a1, b1, s1, e1, h2, rfl⟩ := thenR_inv h1
  obtain ⟨a2, b2, s2, e2, h3, rfl⟩ := thenR_inv h2
  obtain ⟨a3, b3, s3, e3, h4, rfl⟩ := thenR_inv h3
  obtain ⟨a4, b4, s4, e4, h5, rfl⟩ := thenR_inv h4
  obtain ⟨a5, b5, s5, e5, h6, rfl⟩ := thenR_inv h5
  obtain ⟨a6, b6, s6, e6, h7, rfl⟩ := thenR_inv h6
  obtain ⟨a7, a8, s7, e7, e8, rfl⟩ := thenR_inv h7
  exact ⟨u, a1, a2, a3, a4, a5, a6, a7, a8, s0, s1, s2, s3, s4, s5, s6, s7, rfl, e0, e1, e2, e3, e4, e5, e6, e7, e8⟩
/-- A row that was frozen. -/
theorem fz_listG {α : Type} {f : α → List SV} {d : α} {L : List α} {g : Nat → List SV} (hg : ∀ j (h : j < L.length), g j = f L[j]) : fzG L.length L.length (f d) g = listG f d L := by
  funext i
  unfold fzG
  by_cases h : i < L.length
  · rw [show Nat.blt i L.length = true by simpa using h, cond_true, hg i h, listG_at h]
  · rw [show Nat.blt i L.length = false by rw [Bool.eq_false_iff]; intro e; exact h (by simpa using e), cond_false, cond_false]
    unfold listG
    rw [List.getD_eq_getElem?_getD, List.getElem?_eq_none (by omega)]; rfl
theorem takeX_len {α : Type} {rd : List Int → Rs → α × Rs} {B : List Int} {s : Rs} (n : Nat) : (takeX rd n B s).1.length ≤ n := by
  have : ∀ (n : Nat) (L : List α) (s : Rs), (goX rd B n L s).1.length ≤ L.length + n := by
    intro n
    induction n with
    | zero => exact fun _ _ => Nat.le_refl _
    | succ n ih =>
      intro L s
      unfold goX
      cases s.err == 0 with
      | true =>
        rw [cond_true]
        have := ih (L ++ [(rd B s).1]) (rd B s).2
        simp only [List.length_append, List.length_cons, List.length_nil] at this
        omega
      | false => exact Nat.le_add_right _ _
  simpa [takeX] using this n [] s
theorem manyX_len {α : Type} {lo hi : Int} {rd : List Int → Rs → α × Rs} {B : List Int} {s s' : Rs} {L : List α} (hlo : 0 ≤ hi) (h : manyX lo hi rd B s = (L, s')) : (L.length : Int) ≤ hi := by
  obtain ⟨a, b, s1, e1, e2, rfl⟩ := thenR_inv h
  have h1 := takeX_len (rd := rd) (B := B) (s := s1) a.toNat
  rw [e2] at h1
  have h1 : b.length ≤ a.toNat := h1
  rcases count_range e1 with h | h <;> omega
theorem manyX_all {α : Type} {lo hi : Int} {rd : List Int → Rs → α × Rs} {B : List Int} {s s' : Rs} {L : List α} (h : manyX lo hi rd B s = (L, s')) : ∀ x ∈ L, ∃ s', x = (rd B s').1 := by
  obtain ⟨a, b, s1, e1, e2, rfl⟩ := thenR_inv h
  have : ∀ (n : Nat) (M : List α) (s : Rs), (∀ x ∈ M, ∃ s', x = (rd B s').1) → ∀ x ∈ (goX rd B n M s).1, ∃ s', x = (rd B s').1 := by
    intro n
    induction n with
    | zero => exact fun _ _ h => h
    | succ n ih =>
      intro M s hM
      unfold goX
      cases s.err == 0 with
      | true =>
        rw [cond_true]
        refine ih _ _ fun x hx => ?_
        rcases List.mem_append.1 hx with hx | hx
        · exact hM x hx
        · exact ⟨s, by simpa using hx⟩
      | false => exact hM
  have := this a.toNat [] s1 (by simp)
  have e2' : goX rd B a.toNat [] s1 = (b, s') := e2
  rw [e2'] at this
  exact this
theorem rails_smallX {B : List Int} {s s' : Rs} {L : List (List (Int × Int))} (h : manyX 0 16 railX B s = (L, s')) : L.length ≤ 20 ∧ ∀ i, i < L.length → rlen (listG raL [] L i) ≤ 100 := by
  refine ⟨by have := manyX_len (by decide) h; omega, fun i hi => ?_⟩
  rw [listG_at hi]
  obtain ⟨s1, h1⟩ := manyX_all h L[i] (List.getElem_mem hi)
  have h2 := manyX_len (lo := 2) (hi := 64) (rd := placeR) (B := B) (s := s1) (s' := (railX B s1).2) (L := (railX B s1).1) (by decide) rfl
  rw [← h1] at h2
  show L[i].length ≤ 100
  omega
end Go.Se

