/- Part 16: data that come in, as shaped values. -/
import Derived.Test.YtjlmofhokbnloaaDoorSeRegion
import Derived.ProofKit
import Derived.OpenShut
import Derived.Below
import Derived.ChangeSame
import Derived.Carry
import Derived.Laws.Externs
namespace Go.Se
variable {P : Program}

/-- Data of a plain type: what stands at each place. -/
structure Val where
  int : List Nat → Int
  bool : List Nat → Bool
  str : List Nat → ByteArray
  len : List Nat → Nat

def Val.sub (V : Val) (i : Nat) : Val := ⟨fun q => V.int (i :: q), fun q => V.bool (i :: q), fun q => V.str (i :: q), fun q => V.len (i :: q)⟩

def Val.zero : Val := ⟨fun _ => 0, fun _ => false, fun _ => ByteArray.empty, fun _ => 0⟩

/-- Data put together. -/
def Val.join (n : Int) (b : Bool) (s : ByteArray) (l : Nat) (F : Nat → Val) : Val :=
  ⟨fun | [] => n | i :: q => (F i).int q, fun | [] => b | i :: q => (F i).bool q, fun | [] => s | i :: q => (F i).str q, fun | [] => l | i :: q => (F i).len q⟩

theorem Val.sub_join (n : Int) (b : Bool) (s : ByteArray) (l : Nat) (F : Nat → Val) (i : Nat) : (Val.join n b s l F).sub i = F i := rfl

def mkF (M : TypeId → Val → List SV) : Nat → List (Nat × TypeId) → Val → List SV
  | _, [], _ => []
  | i, (_, t) :: fs, V => M t (V.sub i) ++ mkF M (i + 1) fs V

def mkN (M : Val → List SV) : Nat → Nat → Val → List SV
  | _, 0, _ => []
  | i, n + 1, V => M (V.sub i) ++ mkN M (i + 1) n V

/-- The cells of data. -/
def mk (tt : TypeId → Option TI) : Nat → TypeId → Val → List SV
  | 0, _, _ => []
  | d + 1, t, V => match tt t with
    | none => []
    | some ti => match ti.kind with
      | .bool => [.bool (V.bool [])]
      | .int k => [.int k (V.int [])]
      | .string => [.str (V.str [])]
      | .slice e => match tt e with
        | some te => [.ro (V.len []) te.size fun i => mk tt d e (V.sub i)]
        | none => []
      | .struct fs => mkF (mk tt d) 0 fs V
      | .array n e => mkN (mk tt d e) 0 n V
      | _ => []

/-- Where each field lies: one behind the other. -/
def contig (tt : TypeId → Option TI) : Nat → List (Nat × TypeId) → Option Nat
  | o, [] => some o
  | o, (off, t) :: fs => match tt t with
    | some ti => bif Nat.beq off o then contig tt (o + ti.size) fs else none
    | none => none

/-- A type of numbers, bools, strings, and slices, structs and arrays of such. -/
def plain (tt : TypeId → Option TI) : Nat → TypeId → Bool
  | 0, _ => false
  | d + 1, t => match tt t with
    | none => false
    | some ti => match ti.kind with
      | .bool => true
      | .int _ => true
      | .string => true
      | .slice e => plain tt d e && (match tt e with | some te => Nat.blt 0 te.size | none => false)
      | .struct fs => fs.all (fun f => plain tt d f.2) && (match contig tt 0 fs with | some n => Nat.beq n ti.size | none => false)
      | .array n e => plain tt d e && (match tt e with | some te => Nat.beq (n * te.size) ti.size | none => false)
      | _ => false

theorem mapM_some {α β : Type} {f : α → Option β} : ∀ {l : List α} {r : List β}, l.mapM f = some r → ∀ (i : Nat) x, l[i]? = some x → ∃ y, r[i]? = some y ∧ f x = some y
  | [], r, _, i, x, h => by simp at h
  | a :: l, r, hm, i, x, h => by
    rw [List.mapM_cons] at hm
    cases ha : f a with
    | none => rw [ha] at hm; simp at hm
    | some b =>
      rw [ha] at hm
      cases hl : l.mapM f with
      | none => rw [hl] at hm; simp at hm
      | some bs =>
        rw [hl] at hm
        simp at hm
        subst hm
        cases i with
        | zero => simp at h; subst h; exact ⟨b, by simp, ha⟩
        | succ i => simpa using mapM_some hl i x (by simpa using h)

theorem mapM_len {α β : Type} {f : α → Option β} : ∀ {l : List α} {r : List β}, l.mapM f = some r → r.length = l.length
  | [], r, hm => by simp at hm; subst hm; rfl
  | a :: l, r, hm => by
    rw [List.mapM_cons] at hm
    cases ha : f a with
    | none => rw [ha] at hm; simp at hm
    | some b =>
      rw [ha] at hm
      cases hl : l.mapM f with
      | none => rw [hl] at hm; simp at hm
      | some bs =>
        rw [hl] at hm
        simp at hm
        subst hm
        simp [mapM_len hl]

theorem relL_relAt {T : Nat → Prop} {w : World} {b : Nat} : ∀ {xs : List SV} {cs : List Value} {o : Nat}, relL (fun _ => none) T w xs cs → (∀ j c, cs[j]? = some c → w.cell? ⟨b, o + j, none⟩ = some c) → relAt T w xs b o
  | [], cs, o, _, _ => trivial
  | x :: xs, cs, o, ⟨v, r, h1, h2, h3⟩, hc => by
    subst h1
    refine ⟨⟨v, hc 0 v (by simp), h2⟩, relL_relAt h3 fun j c hj => ?_⟩
    have := hc (j + 1) c (by simpa using hj)
    rw [show o + 1 + j = o + (j + 1) by omega]; exact this

section
variable {H : Type} {enc : TypeId × Value → H} {w : World} {tt : TypeId → Option TI}

theorem cellsOf_TI {t : TypeId} {ti : TI} (h : TIok P t ti) : P.cellsOf t = ti.size := by
  obtain ⟨⟨i, hi, h1, _⟩, _⟩ := h
  simp [Program.cellsOf, hi, h1]

theorem cells_get {base : Nat} {a : Addr} {n : Nat} {cs : List Value} (h : w.cells? base a n = some cs) : cs.length = n ∧ ∀ j, j < n → w.cell? (a.add j) = cs[j]? := by
  unfold World.cells? at h
  split at h
  · refine ⟨by simpa using mapM_len h, fun j hj => ?_⟩
    obtain ⟨y, h1, h2⟩ := mapM_some h j j (by simp [hj])
    rw [h1]; exact h2
  · cases h

/-- Fields, one behind the other. -/
theorem fields_mk {M : TypeId → Val → List SV} {gs : List Field} {cs : List Value} (htt : ∀ t ti, tt t = some ti → TIok P t ti) :
    ∀ (fs : List (Nat × TypeId)) (o k n : Nat), contig tt o fs = some n → o ≤ cs.length → n ≤ cs.length →
      (∀ (i off : Nat) (t : TypeId), fs[i]? = some (off, t) → ∃ V, relL (fun _ => none) (fun _ => False) w (M t V) ((cs.drop off).take (P.cellsOf t))) →
      ∃ F : Nat → Val, ∀ V : Val, (∀ i, k ≤ i → V.sub i = F i) → relL (fun _ => none) (fun _ => False) w (mkF M k fs V) ((cs.drop o).take (n - o)) ∧ o ≤ n
  | [], o, k, n, hc, ho, hn, _ => by
    simp only [contig, Option.some.injEq] at hc
    subst hc
    exact ⟨fun _ => Val.zero, fun V _ => ⟨by simp [mkF, relL], Nat.le_refl _⟩⟩
  | (off, t) :: fs, o, k, n, hc, ho, hn, hf => by
    simp only [contig] at hc
    split at hc
    · rename_i ti ht
      cases hb : Nat.beq off o with
      | false => rw [hb] at hc; cases hc
      | true =>
        rw [hb] at hc
        simp only [cond_true] at hc
        have hoff := Nat.eq_of_beq_eq_true hb
        subst hoff
        have hsz := cellsOf_TI (htt _ _ ht)
        obtain ⟨V0, hV0⟩ := hf 0 off t (by simp)
        -- how far the rest goes
        have hmono : ∀ (fs : List (Nat × TypeId)) (o n : Nat), contig tt o fs = some n → o ≤ n := by
          intro fs
          induction fs with
          | nil => intro o n h; simp only [contig, Option.some.injEq] at h; omega
          | cons p fs ih =>
            intro o n h
            obtain ⟨off', t'⟩ := p
            simp only [contig] at h
            split at h
            · rename_i ti' _
              cases hb' : Nat.beq off' o with
              | false => rw [hb'] at h; cases h
              | true => rw [hb'] at h; have := ih _ _ h; omega
            · cases h
        have hle := hmono _ _ _ hc
        obtain ⟨F, hF⟩ := fields_mk (M := M) (gs := gs) htt fs (off + ti.size) (k + 1) n hc (by omega) hn (fun i off' t' h => hf (i + 1) off' t' (by simpa using h))
        refine ⟨fun i => if i = k then V0 else F i, fun V hV => ⟨?_, by omega⟩⟩
        obtain ⟨h1, _⟩ := hF V fun i hi => (hV i (by omega)).trans (if_neg (by omega))
        simp only [mkF]
        rw [(hV k (Nat.le_refl _)).trans (if_pos rfl)]
        have hsplit : (cs.drop off).take (n - off) = (cs.drop off).take ti.size ++ (cs.drop (off + ti.size)).take (n - (off + ti.size)) := by
          rw [show n - off = ti.size + (n - (off + ti.size)) by omega, List.take_add, List.drop_drop]
        rw [hsplit]
        rw [hsz] at hV0
        exact relL_append hV0 h1
    · cases hc

theorem elems_mk {M : Val → List SV} {cs : List Value} {size : Nat} : ∀ (n k : Nat), (k + n) * size ≤ cs.length →
      (∀ i, k ≤ i → i < k + n → ∃ V, relL (fun _ => none) (fun _ => False) w (M V) ((cs.drop (i * size)).take size)) →
      ∃ F : Nat → Val, ∀ V : Val, (∀ i, k ≤ i → V.sub i = F i) → relL (fun _ => none) (fun _ => False) w (mkN M k n V) ((cs.drop (k * size)).take (n * size))
  | 0, k, _, _ => ⟨fun _ => Val.zero, fun V _ => by simp [mkN, relL]⟩
  | n + 1, k, hle, hf => by
    obtain ⟨V0, hV0⟩ := hf k (Nat.le_refl _) (by omega)
    obtain ⟨F, hF⟩ := elems_mk (M := M) (cs := cs) (size := size) n (k + 1) (by rw [show k + 1 + n = k + (n + 1) by omega]; exact hle) (fun i h1 h2 => hf i (by omega) (by omega))
    refine ⟨fun i => if i = k then V0 else F i, fun V hV => ?_⟩
    have h1 := hF V fun i hi => (hV i (by omega)).trans (if_neg (by omega))
    simp only [mkN]
    rw [(hV k (Nat.le_refl _)).trans (if_pos rfl)]
    have hsplit : (cs.drop (k * size)).take ((n + 1) * size) = (cs.drop (k * size)).take size ++ (cs.drop ((k + 1) * size)).take (n * size) := by
      rw [show (n + 1) * size = size + n * size by rw [Nat.succ_mul, Nat.add_comm], List.take_add, List.drop_drop, show k * size + size = (k + 1) * size by rw [Nat.succ_mul]]
    rw [hsplit]
    exact relL_append hV0 h1

theorem trod_mk (htt : ∀ t ti, tt t = some ti → TIok P t ti) : ∀ (d : Nat) (t : TypeId) (fuel : Nat) (cs : List Value) (x : DataW H × List MemPlace),
    plain tt d t = true → DataW.trod enc P w 0 (fun _ => true) true fuel t cs = some x →
    ∃ V, relL (fun _ => none) (fun _ => False) w (mk tt d t V) cs
  | 0, t, fuel, cs, x, hp, h => by cases hp
  | d + 1, t, fuel, cs, x, hp, h => by
    simp only [plain] at hp
    split at hp
    · cases hp
    · rename_i ti ht
      have hti := htt _ _ ht
      cases hk : ti.kind <;> simp only [hk] at hp <;> try (cases hp; done)
      case bool =>
        obtain ⟨b, rfl, _⟩ := DataW.trod_bool (kind_bool hti hk) h
        exact ⟨Val.join 0 b ByteArray.empty 0 fun _ => Val.zero, by simp only [mk, ht, hk]; exact ⟨_, _, rfl, rfl, rfl⟩⟩
      case int k =>
        obtain ⟨n, rfl, _, hw⟩ := DataW.trod_int (kind_int hti hk) h
        simp only [Lit.wf, Bool.and_eq_true, decide_eq_true_eq] at hw
        exact ⟨Val.join n false ByteArray.empty 0 fun _ => Val.zero, by simp only [mk, ht, hk]; exact ⟨_, _, rfl, ⟨rfl, hw⟩, rfl⟩⟩
      case string =>
        obtain ⟨s, rfl, _, hs⟩ := DataW.trod_string (kind_string hti hk) h
        have hs' : s.size < 9223372036854775808 := by unfold maxLen at hs; omega
        exact ⟨Val.join 0 false s 0 fun _ => Val.zero, by simp only [mk, ht, hk]; exact ⟨_, _, rfl, ⟨rfl, hs'⟩, rfl⟩⟩
      case slice e =>
        simp only [Bool.and_eq_true] at hp
        obtain ⟨hpe, hsz⟩ := hp
        split at hsz
        · rename_i te hte
          have hsz' : 0 < te.size := by simpa using hsz
          rcases DataW.trod_slice (kind_slice hti hk) h with ⟨rfl, _⟩ | ⟨a, len, cap, elems, rest, n, rfl, rfl, _, _, hlc, hcm, hel, hread, _, _⟩
          · refine ⟨Val.join 0 false ByteArray.empty 0 fun _ => Val.zero, ?_⟩
            simp only [mk, ht, hk, hte]
            exact ⟨_, _, rfl, ⟨none, 0, rfl, ⟨by show (0 : Nat) ≤ 0; decide, by show (0 : Nat) < _; decide, fun _ => rfl⟩, fun h0 => absurd h0 (Nat.lt_irrefl 0)⟩, rfl⟩
          · have hcells := cellsOf_TI (htt _ _ hte)
            have hone : ∀ i, i < len → ∃ V, ∃ cs, w.cells? 0 (a.add (i * te.size)) te.size = some cs ∧ relL (fun _ => none) (fun _ => False) w (mk tt d e V) cs := by
              intro i hi
              have h1 := hread i hi
              rw [hcells] at h1
              rw [List.getElem?_eq_getElem (by omega)] at h1
              obtain ⟨cs', h2, h3⟩ := Option.bind_eq_some_iff.1 h1
              obtain ⟨V, hV⟩ := trod_mk htt d e n cs' _ hpe h3
              exact ⟨V, cs', h2, hV⟩
            have hex : ∃ F : Nat → Val, ∀ i, i < len → ∃ cs, w.cells? 0 (a.add (i * te.size)) te.size = some cs ∧ relL (fun _ => none) (fun _ => False) w (mk tt d e (F i)) cs := by
              classical
              exact ⟨fun i => if h : i < len then (hone i h).choose else Val.zero, fun i hi => by simp only [hi, dif_pos]; exact (hone i hi).choose_spec⟩
            obtain ⟨F, hF⟩ := hex
            refine ⟨Val.join 0 false ByteArray.empty len F, ?_⟩
            simp only [mk, ht, hk, hte]
            refine ⟨_, _, rfl, ⟨some a, cap, rfl, ?_, fun h0 => ?_⟩, rfl⟩
            · refine ⟨hlc, ?_, fun he => by cases he⟩
              show len < _
              unfold maxLen at hcm; omega
            · have h0' : 0 < len := h0
              obtain ⟨b, off, sp⟩ := a
              obtain ⟨cs0, h1, _⟩ := hF 0 h0'
              obtain ⟨h2, h3⟩ := cells_get h1
              have h4 := h3 0 hsz'
              have hadd : (Addr.mk b off sp).add (0 * te.size) = ⟨b, off, sp⟩ := by simp [Addr.add]
              have hadd0 : (Addr.mk b off sp).add 0 = ⟨b, off, sp⟩ := by simp [Addr.add]
              rw [hadd, hadd0, List.getElem?_eq_getElem (by omega)] at h4
              have hsp : sp = none := by
                unfold World.cell? at h4
                cases sp with
                | none => rfl
                | some s =>
                  simp only at h4
                  split at h4
                  · simp at h4
                  · cases h4
              subst hsp
              refine ⟨b, off, rfl, lt_of_cell h4, fun h => h, fun i hi => ?_⟩
              obtain ⟨cs', h5, h6⟩ := hF i hi
              obtain ⟨h7, h8⟩ := cells_get h5
              have h6' : relL (fun _ => none) (fun _ => False) w (mk tt d e ((Val.join 0 false ByteArray.empty len F).sub i)) cs' := h6
              refine relL_relAt h6' fun j c hj => ?_
              have hj' : j < te.size := by have := (List.getElem?_eq_some_iff.1 hj).1; omega
              have := h8 j hj'
              rw [add_off, add_off] at this
              rw [this]; exact hj
        · cases hsz
      case struct fs =>
        simp only [Bool.and_eq_true, List.all_eq_true] at hp
        obtain ⟨hpf, hc⟩ := hp
        split at hc
        · rename_i n hn
          have hn' := Nat.eq_of_beq_eq_true hc
          obtain ⟨gs, hgs, hfs, _⟩ := kind_struct hti hk
          obtain ⟨xs, m, rfl, _, hlen, hxs, hread⟩ := DataW.trod_struct hgs h
          have hcl := cellsOf_TI hti
          have hfield : ∀ (i off : Nat) (t' : TypeId), fs[i]? = some (off, t') → ∃ V, relL (fun _ => none) (fun _ => False) w (mk tt d t' V) ((cs.drop off).take (P.cellsOf t')) := by
            intro i off t' hi
            rw [hfs, List.getElem?_map] at hi
            cases hg : gs.toList[i]? with
            | none => rw [hg] at hi; cases hi
            | some g =>
              rw [hg] at hi
              simp only [Option.map_some, Option.some.injEq, Prod.mk.injEq] at hi
              obtain ⟨rfl, rfl⟩ := hi
              have hr := hread i g (by simpa using hg)
              have hlt : i < xs.length := by have := (List.getElem?_eq_some_iff.1 hg).1; simp at this; omega
              rw [List.getElem?_eq_getElem hlt] at hr
              exact trod_mk htt d g.type m _ _ (hpf (g.offset, g.type) (by rw [hfs]; exact List.mem_map.2 ⟨g, List.mem_of_getElem? hg, rfl⟩)) hr
          obtain ⟨F, hF⟩ := fields_mk (M := mk tt d) (gs := gs.toList) htt fs 0 0 n hn (Nat.zero_le _) (by omega) hfield
          refine ⟨Val.join 0 false ByteArray.empty 0 F, ?_⟩
          obtain ⟨h1, _⟩ := hF (Val.join 0 false ByteArray.empty 0 F) fun i _ => rfl
          simp only [mk, ht, hk]
          rw [List.drop_zero, Nat.sub_zero, List.take_of_length_le (by omega)] at h1
          exact h1
        · cases hc
      case array n e =>
        simp only [Bool.and_eq_true] at hp
        obtain ⟨hpe, hsz⟩ := hp
        split at hsz
        · rename_i te hte
          have hsz' := Nat.eq_of_beq_eq_true hsz
          obtain ⟨xs, m, rfl, _, hlen, hxs, hread⟩ := DataW.trod_array (kind_array hti hk) h
          have hcl := cellsOf_TI hti
          have hcells := cellsOf_TI (htt _ _ hte)
          obtain ⟨F, hF⟩ := elems_mk (w := w) (M := mk tt d e) (cs := cs) (size := te.size) n 0 (by rw [Nat.zero_add]; omega) (fun i _ hi => by
            have hr := hread i (by omega)
            rw [List.getElem?_eq_getElem (by omega), hcells] at hr
            exact trod_mk htt d e m _ _ hpe hr)
          refine ⟨Val.join 0 false ByteArray.empty 0 F, ?_⟩
          have h1 := hF (Val.join 0 false ByteArray.empty 0 F) fun i _ => rfl
          simp only [mk, ht, hk]
          rw [Nat.zero_mul, List.drop_zero, List.take_of_length_le (by omega)] at h1
          exact h1
        · cases hsz

end
end Go.Se

/- Part 17: from what a law's run comes to, to the row's statement. -/
namespace Go.Se
open Go.RowKit Go.WideShapes Go.ChangeShapes
variable {P : Program}

section
variable {H : Type} {enc : TypeId × Value → H}
theorem post_of_below {f : Func} {s : ChangeSpec} {apart fresh handsOn again : Bool} {W W' : World} {args : Array Value} {v : Value} {ds gs : List (DataW H)} {before pa pv : List MemPlace}
    (hW : DataW.Whole enc P f.params.toList s.vars apart W args.toList ds gs before)
    (hres : ∀ (b : Nat) (sp : Nat → Bool) (hd : Bool), DataW.TrodAll enc P W' b sp hd f.resultTypes.toList (v.resultList f.resultTypes.size) (s.fn H (ds ++ gs)).results [])
    (hargs : ∀ sp : Nat → Bool, (∀ p ∈ before, sp p.block = true) → DataW.TrodAll enc P W' 0 sp true f.params.toList args.toList (s.fn H (ds ++ gs)).args pa)
    (hvars : ∀ sp : Nat → Bool, (∀ p ∈ before, sp p.block = true) → DataW.TrodVars enc P W' sp s.vars (s.fn H (ds ++ gs)).vars pv)
    (hps : before = pa ++ pv) (hb : Below W.heap.size W W')
    (hok : ∀ (j : Nat) (t : TypeId) (r : Value), f.resultTypes[j]? = some t → (v.resultList f.resultTypes.size)[j]? = some r → Value.okWide P W' .any 0 t r) :
    s.post enc P f apart fresh handsOn again W args v W' := by
  have hlt : ∀ p ∈ before, p.block < W.heap.size := fun p hp => hW.lt p hp
  have hold : ∀ p ∈ before, (fun b => decide (b < W.heap.size)) p.block = true := fun p hp => by simpa using hlt p hp
  refine ⟨ds, gs, before, [], pa, pv, hW, hres _ _ _, hargs _ hold, hvars _ hold, World.keptBut_mono (fun p hp => ⟨hp, ?_⟩) (hb.frame (· ∈ before)), fun _ => ?_⟩
  · rw [hps, List.mem_append] at hp
    exact Or.inr hp
  · obtain ⟨_, _, _, _, _, hz, hn⟩ := hW
    refine ⟨hok, _, _, ([] ++ pa) ++ pv, ⟨[] ++ pa, pv, trodAll_append (hargs _ (fun _ _ => rfl)) (hres _ _ _), hvars _ (fun _ _ => rfl), rfl, ?_, ?_⟩, ?_⟩
    · intro b off hp
      have hin : MemPlace.cell b off ∈ before := by rw [hps]; simpa using hp
      rw [hb.frozen (hlt _ hin)]
      exact hz b off hin
    · intro ha
      have := hn ha
      rw [hps] at this
      simpa using this
    · intro p hp _
      rw [hps]
      simpa using hp
end

/-- An argument, as a shaped value. -/
def argSV (tt : TypeId → Option TI) (d : Nat) (t : TypeId) (V : Val) : SV :=
  match tt t with
  | some ti => match ti.kind with
    | .struct _ => .agg (mk tt d t V)
    | .array _ _ => .agg (mk tt d t V)
    | _ => match mk tt d t V with
      | [x] => x
      | _ => .junk
  | none => .junk

def argsSV (tt : TypeId → Option TI) (d : Nat) : Nat → List TypeId → Val → List SV
  | _, [], _ => []
  | i, t :: ts, V => argSV tt d t (V.sub i) :: argsSV tt d (i + 1) ts V

section
variable {H : Type} {enc : TypeId × Value → H} {w : World} {tt : TypeId → Option TI}

theorem arg_mk (htt : ∀ t ti, tt t = some ti → TIok P t ti) {d : Nat} {t : TypeId} {v : Value} {x : DataW H} {ps : List MemPlace} {base : Nat}
    (hp : plain tt d t = true) (hv : Value.okWide P w .any base t v) (h : DataW.Trod enc P w 0 (fun _ => true) true t v x ps) :
    ∃ V, rel (fun _ => none) (fun _ => False) w (argSV tt d t V) v := by
  obtain ⟨fuel, hf⟩ := h
  obtain ⟨V, hV⟩ := trod_mk htt d t fuel _ _ hp hf
  refine ⟨V, ?_⟩
  unfold argSV
  cases ht : tt t with
  | none => trivial
  | some ti =>
    have hti := htt _ _ ht
    obtain ⟨ds, hd, hk⟩ := hti.desc
    have hagg : (∃ cs, v = .agg cs) → rel (fun _ => none) (fun _ => False) w (.agg (mk tt d t V)) v := by
      rintro ⟨cs, rfl⟩
      exact ⟨cs, rfl, hV⟩
    have hone : v.cells = #[v] → rel (fun _ => none) (fun _ => False) w (match mk tt d t V with | [x] => x | _ => SV.junk) v := by
      intro hc
      rw [hc] at hV
      split
      · rename_i y hy
        rw [hy] at hV
        obtain ⟨_, _, h1, h2, h3⟩ := hV
        simp at h1
        obtain ⟨rfl, rfl⟩ := h1
        exact h2
      · trivial
    have hcells : (∀ cs, v ≠ .agg cs) → v.cells = #[v] := by
      intro h
      cases v <;> first | rfl | exact absurd rfl (h _)
    cases hkk : ti.kind <;> (simp only [hkk])
    case struct fs =>
      obtain ⟨gs, hgs, _⟩ := kind_struct hti hkk
      apply hagg
      unfold Value.okWide at hv
      rw [hgs] at hv
      obtain ⟨cs, h1, _⟩ := hv
      exact ⟨cs, h1⟩
    case array n e =>
      have hgs := kind_array hti hkk
      apply hagg
      unfold Value.okWide at hv
      rw [hgs] at hv
      obtain ⟨cs, h1, _⟩ := hv
      exact ⟨cs, h1⟩
    all_goals
      refine hone (hcells ?_)
      rintro cs rfl
      rw [hkk] at hk
      unfold Value.okWide at hv
      rw [hd] at hv
      cases ds <;> simp only [kindOf, Option.some.injEq, reduceCtorEq] at hk <;> (try simp [Cell.okWide, Cell.ok, hd] at hv)
      all_goals (rename_i fsx; cases hb : fsx.toList.all (fun f => f.name != "_") <;> rw [hb] at hk <;> simp at hk)

theorem args_mk (htt : ∀ t ti, tt t = some ti → TIok P t ti) {d : Nat} {base : Nat} : ∀ (ts : List TypeId) (vs : List Value) (ds : List (DataW H)) (ps : List MemPlace) (k : Nat),
    ts.all (plain tt d) = true → (∀ (j : Nat) t v, ts[j]? = some t → vs[j]? = some v → Value.okWide P w .any base t v) → DataW.TrodAll enc P w 0 (fun _ => true) true ts vs ds ps →
    ∃ F : Nat → Val, ∀ V : Val, (∀ i, k ≤ i → V.sub i = F i) → relL (fun _ => none) (fun _ => False) w (argsSV tt d k ts V) vs
  | [], vs, ds, ps, k, _, _, h => by
    refine ⟨fun _ => Val.zero, fun V _ => ?_⟩
    cases vs with
    | nil => rfl
    | cons v vs => cases ds <;> exact h.elim
  | t :: ts, [], ds, ps, k, _, _, h => by cases ds <;> exact h.elim
  | t :: ts, v :: vs, [], ps, k, _, _, h => h.elim
  | t :: ts, v :: vs, x :: ds, ps, k, hp, hv, h => by
    obtain ⟨p, q, h1, h2, _⟩ := h
    rw [List.all_cons, Bool.and_eq_true] at hp
    obtain ⟨V0, hV0⟩ := arg_mk htt hp.1 (hv 0 t v rfl rfl) h1
    obtain ⟨F, hF⟩ := args_mk htt ts vs ds q (k + 1) hp.2 (fun j t' v' h h' => hv (j + 1) t' v' (by simpa using h) (by simpa using h')) h2
    refine ⟨fun i => if i = k then V0 else F i, fun V hV => ?_⟩
    have h3 := hF V fun i hi => (hV i (by omega)).trans (if_neg (by omega))
    refine ⟨v, vs, rfl, ?_, h3⟩
    rw [(hV k (Nat.le_refl _)).trans (if_pos rfl)]
    exact hV0

theorem below_of_grow {W W' : World} (h : Grow (fun _ => False) W W') : Below W.heap.size W W' :=
  ⟨h.os, h.tape, h.output, h.size, fun k hk => h.same k hk id⟩

theorem trodAll_stays (hl : laidOutB P = true) {W W' : World} (hb : Below W.heap.size W W') : ∀ (ts : List TypeId) (vs : List Value) (ds : List (DataW H)) (ps : List MemPlace),
    ts.all (fun t => P.readableRec t && decide (t < P.types.size)) = true → DataW.TrodAll enc P W 0 (fun _ => true) true ts vs ds ps → (∀ p ∈ ps, p.block < W.heap.size) →
    ∀ sp : Nat → Bool, (∀ p ∈ ps, sp p.block = true) → DataW.TrodAll enc P W' 0 sp true ts vs ds ps
  | [], [], [], ps, _, h, _, _, _ => h
  | [], _ :: _, _, ps, _, h, _, _, _ => h.elim
  | [], [], _ :: _, ps, _, h, _, _, _ => h.elim
  | t :: ts, [], ds, ps, _, h, _, _, _ => by cases ds <;> exact h.elim
  | t :: ts, v :: vs, [], ps, _, h, _, _, _ => h.elim
  | t :: ts, v :: vs, x :: ds, ps, hr, h, hlt, sp, hsp => by
    obtain ⟨p, q, h1, h2, rfl⟩ := h
    rw [List.all_cons, Bool.and_eq_true, Bool.and_eq_true, decide_eq_true_eq] at hr
    refine ⟨p, q, ?_, trodAll_stays hl hb ts vs ds q hr.2 h2 (fun y hy => hlt y (List.mem_append_right _ hy)) sp (fun y hy => hsp y (List.mem_append_right _ hy)), rfl⟩
    exact WideElems.Trod_stays hl hr.1.1 hr.1.2 h1 (fun y hy => hb.same (hlt y (List.mem_append_left _ hy))) (fun y hy => hsp y (List.mem_append_left _ hy))

theorem noHandle {P : Program} {W : World} (h : handleOf P = none) : ∀ g v, handleOf P = some (g, v) → W.cell? ⟨g, 0, none⟩ = some v := fun g v hg => by rw [h] at hg; cases hg

/-- What is told of a law's run: the row's last line. -/
theorem law_post {C : Checked} (hl : laidOutB C.prog = true) (htt : ∀ t ti, tt t = some ti → TIok C.prog t ti) {d : Nat} {k : FuncId} {fn : Func} (hfn : C.prog.funcs[k]? = some fn) (hbody : fn.body.isNone = false)
    (hpl : fn.params.toList.all (plain tt d) = true) (hrd : fn.params.toList.all (fun t => C.prog.readableRec t && decide (t < C.prog.types.size)) = true)
    {tb : TypeId} (hres : fn.resultTypes = #[tb]) (hbool : C.prog.underlying tb = some .bool)
    {s : ChangeSpec} (hvars : s.vars = []) (hspec : ∀ ds : List (DataW H), ds.length = fn.params.size → s.fn H ds = { results := [.lit (.bool true)], args := ds })
    {Φ : Val → KC → Prop} (hsat : ∀ V, Sat C.prog k (argsSV tt d 0 fn.params.toList V) [] (Φ V))
    (hlaw : ∀ V, Φ V fun v _ _ => v = .bool true) {apart fresh handsOn again : Bool}
    (W : World) (base : Nat) (args : Array Value) (ds gs : List (DataW H)) (before : List MemPlace)
    (hinv : ∀ g v, handleOf C.prog = some (g, v) → W.cell? ⟨g, 0, none⟩ = some v)
    (hval : ∀ (j : Nat) t v, fn.params[j]? = some t → args[j]? = some v → Value.okWide C.prog W .any base t v)
    (hW : DataW.Whole enc C.prog fn.params.toList s.vars apart W args.toList ds gs before) :
    Calls C.prog k args W fun e W' => ∃ v, e = .returned v ∧ s.post enc C.prog fn apart fresh handsOn again W args v W' := by
  have hW' := hW
  obtain ⟨p, q, hA, hV, rfl, hz, hn⟩ := hW
  rw [hvars] at hV
  obtain ⟨rfl, rfl⟩ := trodVars_none hV
  obtain ⟨F, hF⟩ := args_mk htt _ _ _ _ 0 hpl (fun j t v h h' => hval j t v (by simpa using h) (by simpa using h')) hA
  have hargs := hF (Val.join 0 false ByteArray.empty 0 F) fun i _ => rfl
  obtain ⟨v, σ', dd, hv, hcall⟩ := hsat (Val.join 0 false ByteArray.empty 0 F) _ (hlaw _)
  subst hv
  have hrun := hcall (fun _ => none) (fun _ => False) W args hargs (fun p hp => absurd hp (Nat.not_lt_zero _)) (fun i j b h => by cases h) ⟨fun p b h => (by cases h), fun g v hg => ⟨fun h => h, hinv g v hg⟩⟩
  have hlt : ∀ x ∈ p, x.block < W.heap.size := fun x hx => hW'.lt x (by simpa using hx)
  have hlen : ∀ (ts : List TypeId) (vs : List Value) (ds : List (DataW H)) (ps : List MemPlace), DataW.TrodAll enc C.prog W 0 (fun _ => true) true ts vs ds ps → ds.length = ts.length := by
    intro ts
    induction ts with
    | nil => intro vs ds ps h; cases vs <;> cases ds <;> first | rfl | exact h.elim
    | cons t ts ih =>
      intro vs ds ps h
      cases vs with
      | nil => cases ds <;> exact h.elim
      | cons v vs => cases ds with
        | nil => exact h.elim
        | cons x ds => obtain ⟨_, _, _, h2, _⟩ := h; simp [ih _ _ _ h2]
  have hds : ds.length = fn.params.size := by rw [hlen _ _ _ _ hA]; simp
  rcases hrun with ⟨fn', hfn', _, _, hc⟩ | ⟨x, w', hx, _⟩
  · refine hc.mono fun e W' ⟨x, he, ρ', T', hd⟩ => ⟨x, he, ?_⟩
    have hx : x = .bool true := hd.val
    subst hx
    have hb : Below W.heap.size W W' := below_of_grow (hd.grow.mono fun b _ ⟨_, _, h⟩ => by cases h)
    have hsp := hspec ds hds
    refine post_of_below (pa := p) (pv := []) hW' ?_ ?_ ?_ (by simp) hb (ok_one hres rfl (okWide_bool_mk hbool true))
    · intro b sp hd
      rw [List.append_nil, hsp, hres]
      exact trodAll_mk1 (shut_bool hbool true)
    · intro sp hs
      rw [List.append_nil, hsp]
      exact trodAll_stays hl hb _ _ _ _ hrd hA hlt sp (fun y hy => hs y (by simpa using hy))
    · intro sp hs
      rw [List.append_nil, hsp, hvars]
      rfl
  · exfalso
    have hc : (callFunc k args).run C.prog W = (if fn.name == "runtime.NumGoroutine" then (pure .numGoroutine : Sem Next) else pure (.enter k args)).run C.prog W := by
      unfold callFunc
      simp only [Sem.run_bind, run_program, Result.andThen_ok, hfn, hbody, Bool.false_eq_true, if_false]
    rw [hc] at hx
    split at hx <;> cases hx
end
end Go.Se

/- Part 21: loops that go on as long as they like. -/
namespace Go.Se

def codeAt : Code → List Nat → Code
  | c, [] => c
  | .seq a _, 0 :: l => codeAt a l
  | .seq _ b, _ :: l => codeAt b l
  | .block _ a, _ :: l => codeAt a l
  | .loop a, _ :: l => codeAt a l
  | .cond _ a _, 0 :: l => codeAt a l
  | .cond _ _ b, _ :: l => codeAt b l
  | c, _ => c

def bodyOf (fn : Func) : Code := match fn.body with
  | some c => c
  | none => .skip

/-- What comes behind a piece of code. -/
def ctxK (env : Env) (W : Nat → St → Option St) : Nat → Code → List Nat → (Ex → St → Prop) → (Ex → St → Prop)
  | _, _, [], K => K
  | blk, .seq a b, 0 :: l, K => ctxK env W blk a l (fun e s => match e with
    | .normal => evalCode env W blk b K s
    | e => K e s)
  | blk, .seq _ b, _ :: l, K => ctxK env W blk b l K
  | _, .block id a, _ :: l, K => ctxK env W id a l (fun e s => match e with
    | .exit i => bif Nat.beq i id then K .normal s else K (.exit i) s
    | e => K e s)
  | blk, .cond _ a _, 0 :: l, K => ctxK env W blk a l K
  | blk, .cond _ _ b, _ :: l, K => ctxK env W blk b l K
  | _, _, _, K => K

def finK (env : Env) (fn : Func) (n0 : Nat) (K : KC) : Ex → St → Prop := fun e s => match e with
  | .exit _ => False
  | _ => finish env n0 fn.results.toList K s

def cutN (ρ : Names) (m : Nat) : Names := fun i => if i < m then ρ i else none

mutual
theorem rel_small {ρ : Names} {T : Nat → Prop} {w : World} {m : Nat} : ∀ (a : SV) (v : Value), (∀ i ∈ ids a, i < m) → rel ρ T w a v → rel (cutN ρ m) T w a v
  | .junk, _, _, _ => trivial
  | .int _ _, _, _, h => h
  | .bool _, _, _, h => h
  | .str _, _, _, h => h
  | .nilp, _, _, h => h
  | .ptr id off, v, hs, ⟨b, h1, h2⟩ => ⟨b, by unfold cutN; rw [if_pos (hs id (by simp [ids]))]; exact h1, h2⟩
  | .yld id, v, hs, ⟨b, h1, h2⟩ => ⟨b, by unfold cutN; rw [if_pos (hs id (by simp [ids]))]; exact h1, h2⟩
  | .rptr _, _, _, h => h
  | .fn g x y, v, hs, ⟨a, c, h1, h2, h3⟩ => ⟨a, c, h1, relL_small x _ (fun i hi => hs i (by simp [ids, hi])) h2, relL_small y _ (fun i hi => hs i (by simp [ids, hi])) h3⟩
  | .nilfn, _, _, h => h
  | .agg cs, v, hs, ⟨a, h1, h2⟩ => ⟨a, h1, relL_small cs _ (fun i hi => hs i (by simpa [ids] using hi)) h2⟩
  | .tup cs, v, hs, ⟨a, h1, h2⟩ => ⟨a, h1, relL_small cs _ (fun i hi => hs i (by simpa [ids] using hi)) h2⟩
  | .nils, _, _, h => h
  | .emp, _, _, h => h
  | .arr id off len cap, v, hs, ⟨⟨b, h1, h2⟩, h3⟩ => ⟨⟨b, by unfold cutN; rw [if_pos (hs id (by simp [ids]))]; exact h1, h2⟩, h3⟩
  | .eptr id i st o, v, hs, ⟨b, h1, h2⟩ => ⟨b, by unfold cutN; rw [if_pos (hs id (by simp [ids]))]; exact h1, h2⟩
  | .own id off st len, v, hs, ⟨b, c, h1, h2⟩ => ⟨b, c, by unfold cutN; rw [if_pos (hs id (by simp [ids]))]; exact h1, h2⟩
  | .ro _ _ _, _, _, h => h
  | .nilI, _, _, h => h
  | .iface t x, v, hs, ⟨y, h1, h2⟩ => ⟨y, h1, rel_small x y (fun i hi => hs i (by simpa [ids] using hi)) h2⟩
theorem relL_small {ρ : Names} {T : Nat → Prop} {w : World} {m : Nat} : ∀ (l : List SV) (r : List Value), (∀ i ∈ ids.idsL l, i < m) → relL ρ T w l r → relL (cutN ρ m) T w l r
  | [], _, _, h => h
  | a :: l, _, hs, ⟨v, r, h1, h2, h3⟩ => ⟨v, r, h1, rel_small a v (fun i hi => hs i (by simp [ids.idsL, hi])) h2, relL_small l r (fun i hi => hs i (by simp [ids.idsL, hi])) h3⟩
end

theorem ids_get : ∀ (l : Tmps) (t : Nat), ∀ i ∈ ids (get l t), i ∈ idsT l
  | [], t, i, h => by simp [get, ids] at h
  | (u, v) :: l, t, i, h => by
    simp only [get] at h
    simp only [idsT, List.mem_append]
    cases hb : Nat.beq u t with
    | true => rw [hb] at h; exact .inl h
    | false => rw [hb] at h; exact .inr (ids_get l t i h)
theorem relB_small {ρ : Names} {T : Nat → Prop} {w : World} {m : Nat} {sb : SB} {b : Nat} (hs : ∀ i ∈ idsB sb, i < m) (h : relB ρ T w sb b) : relB (cutN ρ m) T w sb b := by
  cases sb with
  | cells e cs => obtain ⟨vs, h1, h2⟩ := h; exact ⟨vs, h1, relL_small _ _ hs h2⟩
  | lst e cs => obtain ⟨vs, h1, x, r, h2, h3⟩ := h; exact ⟨vs, h1, x, r, h2, relL_small _ _ hs h3⟩
  | row e st len g => exact h
  | loop tm nt ps as bd pend => obtain ⟨r, h1, h2, h3, h4, h5, h6, h7⟩ := h; exact ⟨r, h1, h2, h3, h4, h5, h6, fun t => rel_small _ _ (fun i hi => hs i (ids_get tm t i hi)) (h7 t)⟩
  | iter s pos => exact h

def below (m : Nat) (l : List Nat) : Bool := l.all fun i => Nat.blt i m
theorem below_lt {m : Nat} {l : List Nat} (h : below m l = true) : ∀ i ∈ l, i < m := fun i hi => by simpa using List.all_eq_true.1 h i hi

def keeps (l : Tmps) (m : Nat) : Tmps → Prop
  | [] => True
  | (t, v) :: r => (get l t = v ∧ below m (ids v) = true) ∧ keeps l m r
def keepsS (l : Store) (m : Nat) : Store → Prop
  | [] => True
  | (_i, none) :: r => keepsS l m r
  | (i, some sb) :: r => (look l i = some sb ∧ Nat.blt i m = true ∧ below m (idsB sb) = true) ∧ keepsS l m r

theorem keeps_get {l : Tmps} {m : Nat} : ∀ {r : Tmps}, keeps l m r → ∀ t, get r t = .junk ∨ (get r t = get l t ∧ below m (ids (get r t)) = true)
  | [], _, t => .inl rfl
  | (u, v) :: r, ⟨⟨h1, h3⟩, h2⟩, t => by
    simp only [get]
    cases hb : Nat.beq u t with
    | true => rw [Nat.eq_of_beq_eq_true hb] at h1; exact .inr ⟨h1.symm, h3⟩
    | false => exact keeps_get h2 t
theorem keepsS_look {l : Store} {m : Nat} : ∀ {r : Store}, keepsS l m r → ∀ t sb, look r t = some sb → look l t = some sb ∧ t < m ∧ below m (idsB sb) = true
  | [], _, t, sb, h => by simp [look] at h
  | (u, none) :: r, h2, t, sb, h => by
    simp only [look] at h
    cases hb : Nat.beq u t with
    | true => rw [hb] at h; cases h
    | false => rw [hb] at h; exact keepsS_look (r := r) h2 t sb h
  | (u, some v) :: r, ⟨⟨h1, h3, h4⟩, h2⟩, t, sb, h => by
    simp only [look] at h
    cases hb : Nat.beq u t with
    | true =>
      rw [hb] at h
      simp only [cond_true, Option.some.injEq] at h
      subst h
      rw [Nat.eq_of_beq_eq_true hb] at h1 h3
      exact ⟨h1, by simpa using h3, h4⟩
    | false => rw [hb] at h; exact keepsS_look h2 t sb h

/-- What is still told of a state: these temporaries, these blocks. -/
structure Keep where
  ts : List Nat
  bs : List Nat
  d : List Nat
  m : Nat
  mv : List (Nat × Nat) := []

def keptT (l : Tmps) : List Nat → Tmps
  | [] => []
  | t :: r => (t, get l t) :: keptT l r
def keptS (l : Store) : List Nat → Store
  | [] => []
  | t :: r => (t, look l t) :: keptS l r
def smallT (m : Nat) : Tmps → Bool
  | [] => true
  | (_, v) :: r => below m (ids v) && smallT m r
def smallS (m : Nat) : Store → Bool
  | [] => true
  | (_, none) :: r => smallS m r
  | (i, some sb) :: r => Nat.blt i m && below m (idsB sb) && smallS m r
def subs (d : List Nat) : List Nat → Bool
  | [] => true
  | p :: r => d.any (Nat.beq p) && subs d r

/-- The block that a value leads to. -/
def idOf : SV → Option Nat
  | .own i _ _ _ => some i
  | .ptr i _ => some i
  | .iface _ (.ptr i _) => some i
  | .fn _ [] (.ptr i _ :: _) => some i
  | .fn _ (.ptr i _ :: _) _ => some i
  | _ => none
def mvF (a b i : Nat) : Option Nat := bif Nat.beq i a then some b else bif Nat.beq i b then none else some i
/-- A block that was told as a list, told as a row. -/
def rowify (t : SV) (s : Store) : Store :=
  match t with
  | .own b 0 st len => match look s b with
    | some (.lst e cs) => bif (ids.idsL cs).isEmpty && Nat.beq cs.length (len * st) then (b, some (.row e st len (fun i => cut cs (i * st) st))) :: s else s
    | _ => s
  | _ => s
def rowedV (v : SV) (s : St) : St := ⟨s.tmps, rowify v s.store, s.nxt, s.dirty, s.nt⟩
def rowed (t : Nat) (s : St) : St := rowedV (get s.tmps t) s
def renS (f : Nat → Option Nat) : Store → Store
  | [] => []
  | (i, o) :: r => match f i with
    | some j => (j, o.map (renB f)) :: renS f r
    | none => renS f r
/-- Blocks under other names: that of a slice that grows, under one name for all rounds. -/
def moves (n0 : Nat) : List (Nat × Nat) → St → Option St
  | [], s => some s
  | (t, b) :: r, s => match idOf (get s.tmps t) with
    | none => moves n0 r s
    | some a => bif Nat.beq a b then moves n0 r (rowed t s) else
        bif Nat.ble n0 a && Nat.ble n0 b then moves n0 r (rowed t ⟨renT (mvF a b) s.tmps, renS (mvF a b) s.store, bif Nat.ble s.nxt b then b + 1 else s.nxt, s.dirty, s.nt⟩) else none

/-- The value that a way of cells leads to. -/
def valAt (s : Store) : SV → List Nat → SV
  | v, [] => v
  | .yld i, k :: r => match look s i with
    | some (.loop tm _ _ _ _ _) => valAt s (get tm k) r
    | _ => .junk
  | v, k :: r => match idOf v with
    | some i => match look s i with
      | some (.cells _ cs) => valAt s (nth cs k) r
      | _ => .junk
    | none => .junk
/-- Blocks under other names, also of those that were handed in; each is found by a temporary and a way of cells. -/
def movesP (n0 : Nat) : List ((Nat × List Nat) × Nat) → St → Option St
  | [], s => some s
  | ((t, p), b) :: r, s => match idOf (valAt s.store (get s.tmps t) p) with
    | none => movesP n0 r s
    | some a => bif Nat.beq a b then movesP n0 r (rowedV (valAt s.store (get s.tmps t) p) s) else
        let s' : St := ⟨renT (mvF a b) s.tmps, renS (mvF a b) s.store, bif Nat.ble s.nxt b then b + 1 else s.nxt, bif Nat.ble n0 a then s.dirty else addTo s.dirty [a], s.nt⟩
        bif Nat.ble n0 b && (Nat.ble n0 a || (look s.store a).isSome) then movesP n0 r (rowedV (valAt s'.store (get s'.tmps t) p) s') else none

def restrict (n0 : Nat) (R : Keep) (s : St) : Option St :=
  bif Nat.ble n0 R.m && subs R.d s.dirty && smallT R.m (keptT s.tmps R.ts) && smallS R.m (keptS s.store R.bs)
  then some ⟨keptT s.tmps R.ts, keptS s.store R.bs, R.m, R.d, s.nt⟩ else none

/-- A table of what is told at loops, by block. -/
def keepW (R : List (Nat × Keep)) (n0 blk : Nat) (s : St) : Option St :=
  match R with
  | [] => some s
  | (b, k) :: r => bif Nat.beq b blk then (match moves n0 k.mv s with
      | some s => restrict n0 k s
      | none => none) else keepW r n0 blk s
/-- Such a table, where blocks are found by ways of cells. -/
def keepP (R : List (Nat × Keep × List ((Nat × List Nat) × Nat))) (n0 blk : Nat) (s : St) : Option St :=
  match R with
  | [] => some s
  | (b, k, m) :: r => bif Nat.beq b blk then (match moves n0 k.mv s with
      | some s => match movesP n0 m s with
        | some s => restrict n0 k s
        | none => none
      | none => none) else keepP r n0 blk s

theorem keptT_ok {l : Tmps} {m : Nat} : ∀ {ts : List Nat}, smallT m (keptT l ts) = true → keeps l m (keptT l ts)
  | [], _ => trivial
  | t :: r, h => by
    simp only [keptT, smallT, Bool.and_eq_true] at h
    exact ⟨⟨rfl, h.1⟩, keptT_ok h.2⟩
theorem keptS_ok {l : Store} {m : Nat} : ∀ {ts : List Nat}, smallS m (keptS l ts) = true → keepsS l m (keptS l ts)
  | [], _ => trivial
  | t :: r, h => by
    simp only [keptS] at h ⊢
    cases hl : look l t with
    | none => rw [hl] at h; exact keptS_ok (ts := r) h
    | some sb =>
      rw [hl] at h
      simp only [smallS, Bool.and_eq_true] at h
      exact ⟨⟨hl, h.1.1, h.1.2⟩, keptS_ok h.2⟩
theorem subs_ok {d : List Nat} : ∀ {l : List Nat}, subs d l = true → ∀ p, p ∈ l → p ∈ d
  | [], _, p, hp => nomatch hp
  | q :: r, h, p, hp => by
    simp only [subs, Bool.and_eq_true] at h
    rcases List.mem_cons.1 hp with rfl | hp
    · exact any_beq.1 h.1
    · exact subs_ok h.2 p hp

def Less (P : Program) (n : Nat) (s s' : St) : Prop := ∀ (B : Base P) (a : Act) (w : World), B.n = n → Now B s a w → Now B s' a w

/-- Less is told: of temporaries, of blocks; names of blocks that nothing leads to are free again. -/
theorem less_of {P : Program} {n : Nat} {s s' : St} (hn0 : n ≤ s'.nxt) (hd : ∀ p, p ∈ s.dirty → p ∈ s'.dirty) (ht : s'.nt = s.nt) (htm : keeps s.tmps s'.nxt s'.tmps)
    (hst : keepsS s.store s'.nxt s'.store) : Less P n s s' := by
  rintro B a w rfl ⟨h1, ρ, T, h⟩
  refine ⟨hn0, cutN ρ s'.nxt, T, ?_⟩
  have hcut : ∀ {i b}, cutN ρ s'.nxt i = some b → i < s'.nxt ∧ ρ i = some b := by
    intro i b hi
    unfold cutN at hi
    split at hi
    · rename_i hlt; exact ⟨hlt, hi⟩
    · cases hi
  have hnone : ∀ q, look s.store q = none → look s'.store q = none := by
    intro q hq
    cases hl : look s'.store q with
    | none => rfl
    | some sb => rw [(keepsS_look hst q sb hl).1] at hq; cases hq
  have hsome : ∀ q, (look s'.store q).isSome → (look s.store q).isSome := by
    intro q hq
    obtain ⟨sb, hsb⟩ := Option.isSome_iff_exists.1 hq
    rw [(keepsS_look hst q sb hsb).1]; rfl
  exact {
    defers := h.defers
    size := by rw [ht]; exact h.size
    tmps := fun t => by
      rcases keeps_get htm t with e | ⟨e, hb⟩
      · rw [e]; trivial
      · exact rel_small _ _ (below_lt hb) (by rw [e]; exact h.tmps t)
    store := fun id sb hid => by
      obtain ⟨e, hlt, hb⟩ := keepsS_look hst id sb hid
      obtain ⟨_, b, b1, b2, b3⟩ := h.store id sb e
      exact ⟨hlt, b, by unfold cutN; rw [if_pos hlt]; exact b1, b2, relB_small (below_lt hb) b3⟩
    names := fun id b hid => ⟨(hcut hid).1, (h.names id b (hcut hid).2).2⟩
    inj := fun i j b hi hj h1 h2 => h.inj i j b (hsome i hi) (hsome j hj) (hcut h1).2 (hcut h2).2
    base := fun id hid => Nat.lt_of_lt_of_le hid hn0
    full := h.full
    grow := h.grow.mono fun b _ ⟨p, p1, p2⟩ => ⟨p, hd p p1, p2⟩
    old := fun p b hp => ⟨(h.old p b hp).1, by unfold cutN; rw [if_pos (Nat.lt_of_lt_of_le (h.old p b hp).1 hn0)]; exact (h.old p b hp).2⟩
    tback := h.tback
    tkeep := fun b hb hT => (h.tkeep b hb hT).imp (fun x => x) fun ⟨q, q1, q2, q3, q4⟩ => ⟨q, hd q q1, q2, hnone q q3, q4⟩
    fresh := fun id b h1 h2 h3 => (h.fresh id b (hsome id h1) h2 (hcut h3).2).imp (fun x => x) fun ⟨q, q1, q2, q3, q4⟩ => ⟨q, hd q q1, q2, hnone q q3, q4⟩
    inv := h.inv }

theorem look_renS {a b : Nat} (hab : a ≠ b) : ∀ (l : Store) (t : Nat), look (renS (mvF a b) l) t = if t = a then none else if t = b then (look l a).map (renB (mvF a b)) else (look l t).map (renB (mvF a b))
  | [], t => by simp [renS, look]
  | (u, v) :: l, t => by
    have ih := look_renS hab l t
    simp only [renS, mvF]
    by_cases hua : u = a
    · subst hua
      rw [Nat.beq_refl]
      simp only [cond_true, look, Nat.beq_refl]
      by_cases htb : t = b
      · subst htb
        have : t ≠ u := fun e => hab e.symm
        simp [this, Nat.beq_refl]
      · have hbt : Nat.beq b t = false := by rw [Bool.eq_false_iff]; intro e; exact htb (Nat.eq_of_beq_eq_true e).symm
        rw [hbt, cond_false, ih]
        by_cases hta : t = u
        · simp [hta]
        · have hut : Nat.beq u t = false := by rw [Bool.eq_false_iff]; intro e; exact hta (Nat.eq_of_beq_eq_true e).symm
          simp [hta, htb, hut]
    · have hua' : Nat.beq u a = false := by rw [Bool.eq_false_iff]; intro e; exact hua (Nat.eq_of_beq_eq_true e)
      rw [hua']
      simp only [cond_false]
      by_cases hub : u = b
      · subst hub
        rw [Nat.beq_refl]
        simp only [cond_true]
        rw [ih]
        simp only [look, hua', cond_false]
        by_cases hta : t = a
        · simp [hta]
        · by_cases htb : t = u
          · simp [htb]
          · have hut : Nat.beq u t = false := by rw [Bool.eq_false_iff]; intro e; exact htb (Nat.eq_of_beq_eq_true e).symm
            simp [hta, htb, hut]
      · have hub' : Nat.beq u b = false := by rw [Bool.eq_false_iff]; intro e; exact hub (Nat.eq_of_beq_eq_true e)
        rw [hub']
        simp only [cond_false, look, hua']
        rw [ih]
        by_cases hut : u = t
        · subst hut
          simp [hua, hub, Nat.beq_refl]
        · have hut' : Nat.beq u t = false := by rw [Bool.eq_false_iff]; intro e; exact hut (Nat.eq_of_beq_eq_true e)
          simp [hut']

theorem mv_less {P : Program} {n a b m : Nat} {s : St} (hab : a ≠ b) (ha : n ≤ a) (hb : n ≤ b) (hm : s.nxt ≤ m) (hbm : b < m) :
    Less P n s ⟨renT (mvF a b) s.tmps, renS (mvF a b) s.store, m, s.dirty, s.nt⟩ := by
  rintro B act w rfl ⟨h1, ρ, T, h⟩
  let ρ2 : Names := fun i => if i = b then ρ a else if i = a then none else ρ i
  have hf : ∀ i j c, mvF a b i = some j → ρ i = some c → ρ2 j = some c := by
    intro i j c hi hc
    unfold mvF at hi
    by_cases hia : i = a
    · subst hia
      rw [Nat.beq_refl] at hi
      cases hi
      show (if _ then _ else _) = _
      rw [if_pos rfl]; exact hc
    · rw [show Nat.beq i a = false by rw [Bool.eq_false_iff]; intro e; exact hia (Nat.eq_of_beq_eq_true e)] at hi
      simp only [cond_false] at hi
      by_cases hib : i = b
      · rw [hib, Nat.beq_refl] at hi; cases hi
      · rw [show Nat.beq i b = false by rw [Bool.eq_false_iff]; intro e; exact hib (Nat.eq_of_beq_eq_true e)] at hi
        cases hi
        show (if _ then _ else if _ then _ else _) = _
        rw [if_neg hib, if_neg hia]; exact hc
  have hlow : ∀ q, q < B.n → look s.store q = none → look (renS (mvF a b) s.store) q = none := by
    intro q hq hn
    rw [look_renS hab, if_neg (by omega), if_neg (by omega), hn]; rfl
  -- where a block that is told was before
  have hpre : ∀ id sb, look (renS (mvF a b) s.store) id = some sb → id ≠ a ∧ ∃ sb0, look s.store (if id = b then a else id) = some sb0 ∧ sb = renB (mvF a b) sb0 ∧ ρ2 id = ρ (if id = b then a else id) := by
    intro id sb hid
    rw [look_renS hab] at hid
    by_cases hia : id = a
    · rw [if_pos hia] at hid; cases hid
    · rw [if_neg hia] at hid
      refine ⟨hia, ?_⟩
      have hρ2 : ρ2 id = ρ (if id = b then a else id) := by
        show (if _ then _ else if _ then _ else _) = _
        by_cases hib : id = b
        · rw [if_pos hib, if_pos hib]
        · rw [if_neg hib, if_neg hia, if_neg hib]
      by_cases hib : id = b
      · rw [if_pos hib] at hid hρ2 ⊢
        obtain ⟨sb0, h2, h3⟩ := Option.map_eq_some_iff.1 hid
        exact ⟨sb0, h2, h3.symm, hρ2⟩
      · rw [if_neg hib] at hid hρ2 ⊢
        obtain ⟨sb0, h2, h3⟩ := Option.map_eq_some_iff.1 hid
        exact ⟨sb0, h2, h3.symm, hρ2⟩
  refine ⟨Nat.le_trans h1 hm, ρ2, T, ?_⟩
  exact {
    defers := h.defers
    size := h.size
    tmps := fun t => by rw [get_renT]; exact rel_ren hf _ _ (h.tmps t)
    store := fun id sb hid => by
      obtain ⟨hia, sb0, h2, rfl, h4⟩ := hpre id sb hid
      obtain ⟨hA, c, b1, b2, b3⟩ := h.store _ sb0 h2
      refine ⟨?_, c, by rw [h4]; exact b1, b2, relB_ren hf b3⟩
      have hA : (if id = b then a else id) < s.nxt := hA
      show id < m
      by_cases hib : id = b
      · omega
      · rw [if_neg hib] at hA; omega
    names := fun id c hid => by
      have hid : (if id = b then ρ a else if id = a then none else ρ id) = some c := hid
      show id < m ∧ _
      by_cases hib : id = b
      · rw [if_pos hib] at hid
        exact ⟨by omega, (h.names a c hid).2⟩
      · rw [if_neg hib] at hid
        by_cases hia : id = a
        · rw [if_pos hia] at hid; cases hid
        · rw [if_neg hia] at hid
          have := h.names id c hid
          exact ⟨Nat.lt_of_lt_of_le this.1 hm, this.2⟩
    inj := fun i j c hi hj h1 h2 => by
      obtain ⟨si, hsi⟩ := Option.isSome_iff_exists.1 hi
      obtain ⟨sj, hsj⟩ := Option.isSome_iff_exists.1 hj
      obtain ⟨a1, s1, l1, _, r1⟩ := hpre i si hsi
      obtain ⟨a2, s2, l2, _, r2⟩ := hpre j sj hsj
      rw [r1] at h1; rw [r2] at h2
      have := h.inj _ _ c (by rw [l1]; rfl) (by rw [l2]; rfl) h1 h2
      by_cases hib : i = b <;> by_cases hjb : j = b
      · rw [hib, hjb]
      · rw [if_pos hib, if_neg hjb] at this; exact absurd this.symm a2
      · rw [if_neg hib, if_pos hjb] at this; exact absurd this a1
      · rw [if_neg hib, if_neg hjb] at this; exact this
    base := fun id hid => Nat.lt_of_lt_of_le (h.base id hid) hm
    full := h.full
    grow := h.grow
    old := fun p c hp => by
      have := h.old p c hp
      refine ⟨this.1, ?_⟩
      show (if _ then _ else if _ then _ else _) = _
      rw [if_neg (by omega), if_neg (by omega)]; exact this.2
    tback := h.tback
    tkeep := fun c hc hT => (h.tkeep c hc hT).imp (fun x => x) fun ⟨q, q1, q2, q3, q4⟩ => ⟨q, q1, q2, hlow q q2 q3, q4⟩
    fresh := fun id c h2 h3 h4 => by
      obtain ⟨sb, hsb⟩ := Option.isSome_iff_exists.1 h2
      obtain ⟨a1, s1, l1, _, r1⟩ := hpre id sb hsb
      rw [r1] at h4
      refine (h.fresh _ c (by rw [l1]; rfl) (by by_cases hib : id = b; rw [if_pos hib]; exact ha; rw [if_neg hib]; exact h3) h4).imp (fun x => x) fun ⟨q, q1, q2, q3, q4⟩ => ⟨q, q1, q2, hlow q q2 q3, q4⟩
    inv := h.inv }

theorem mv_less_in {P : Program} {n a b m : Nat} {s : St} (hab : a ≠ b) (ha : a < n) (hb : n ≤ b) (hal : (look s.store a).isSome) (hm : s.nxt ≤ m) (hbm : b < m) :
    Less P n s ⟨renT (mvF a b) s.tmps, renS (mvF a b) s.store, m, addTo s.dirty [a], s.nt⟩ := by
  rintro B act w rfl ⟨h1, ρ, T, h⟩
  let ρ2 : Names := fun i => if i = b then ρ a else ρ i
  have hf : ∀ i j c, mvF a b i = some j → ρ i = some c → ρ2 j = some c := by
    intro i j c hi hc
    unfold mvF at hi
    by_cases hia : i = a
    · subst hia
      rw [Nat.beq_refl] at hi
      cases hi
      show (if _ then _ else _) = _
      rw [if_pos rfl]; exact hc
    · rw [show Nat.beq i a = false by rw [Bool.eq_false_iff]; intro e; exact hia (Nat.eq_of_beq_eq_true e)] at hi
      simp only [cond_false] at hi
      by_cases hib : i = b
      · rw [hib, Nat.beq_refl] at hi; cases hi
      · rw [show Nat.beq i b = false by rw [Bool.eq_false_iff]; intro e; exact hib (Nat.eq_of_beq_eq_true e)] at hi
        cases hi
        show (if _ then _ else _) = _
        rw [if_neg hib]; exact hc
  have hlow : ∀ q, q < B.n → look s.store q = none → look (renS (mvF a b) s.store) q = none := by
    intro q hq hn
    rw [look_renS hab, if_neg (fun e => by subst e; rw [hn] at hal; cases hal), if_neg (by omega), hn]; rfl
  have hdeadA : look (renS (mvF a b) s.store) a = none := by rw [look_renS hab, if_pos rfl]
  have hD : ∀ p, p ∈ s.dirty → p ∈ addTo s.dirty [a] := fun p hp => (mem_addTo _ _ _).2 (.inl hp)
  have hDa : a ∈ addTo s.dirty [a] := (mem_addTo _ _ _).2 (.inr (by simp))
  have hBa : ∀ c, ρ a = some c → B.ρ a = some c := fun c hc => by
    obtain ⟨c', hc'⟩ := h.full a ha
    have := (h.old a c' hc').2
    rw [hc] at this; cases this
    exact hc'
  have hpre : ∀ id sb, look (renS (mvF a b) s.store) id = some sb → id ≠ a ∧ ∃ sb0, look s.store (if id = b then a else id) = some sb0 ∧ sb = renB (mvF a b) sb0 ∧ ρ2 id = ρ (if id = b then a else id) := by
    intro id sb hid
    rw [look_renS hab] at hid
    by_cases hia : id = a
    · rw [if_pos hia] at hid; cases hid
    · rw [if_neg hia] at hid
      refine ⟨hia, ?_⟩
      have hρ2 : ρ2 id = ρ (if id = b then a else id) := by
        show (if _ then _ else _) = _
        by_cases hib : id = b
        · rw [if_pos hib, if_pos hib]
        · rw [if_neg hib, if_neg hib]
      by_cases hib : id = b
      · rw [if_pos hib] at hid hρ2 ⊢
        obtain ⟨sb0, h2, h3⟩ := Option.map_eq_some_iff.1 hid
        exact ⟨sb0, h2, h3.symm, hρ2⟩
      · rw [if_neg hib] at hid hρ2 ⊢
        obtain ⟨sb0, h2, h3⟩ := Option.map_eq_some_iff.1 hid
        exact ⟨sb0, h2, h3.symm, hρ2⟩
  refine ⟨Nat.le_trans h1 hm, ρ2, T, ?_⟩
  exact {
    defers := h.defers
    size := h.size
    tmps := fun t => by rw [get_renT]; exact rel_ren hf _ _ (h.tmps t)
    store := fun id sb hid => by
      obtain ⟨hia, sb0, h2, rfl, h4⟩ := hpre id sb hid
      obtain ⟨hA, c, b1, b2, b3⟩ := h.store _ sb0 h2
      refine ⟨?_, c, by rw [h4]; exact b1, b2, relB_ren hf b3⟩
      have hA : (if id = b then a else id) < s.nxt := hA
      show id < m
      by_cases hib : id = b
      · omega
      · rw [if_neg hib] at hA; omega
    names := fun id c hid => by
      have hid : (if id = b then ρ a else ρ id) = some c := hid
      show id < m ∧ _
      by_cases hib : id = b
      · rw [if_pos hib] at hid
        exact ⟨by omega, (h.names a c hid).2⟩
      · rw [if_neg hib] at hid
        have := h.names id c hid
        exact ⟨Nat.lt_of_lt_of_le this.1 hm, this.2⟩
    inj := fun i j c hi hj h1 h2 => by
      obtain ⟨si, hsi⟩ := Option.isSome_iff_exists.1 hi
      obtain ⟨sj, hsj⟩ := Option.isSome_iff_exists.1 hj
      obtain ⟨a1, s1, l1, _, r1⟩ := hpre i si hsi
      obtain ⟨a2, s2, l2, _, r2⟩ := hpre j sj hsj
      rw [r1] at h1; rw [r2] at h2
      have := h.inj _ _ c (by rw [l1]; rfl) (by rw [l2]; rfl) h1 h2
      by_cases hib : i = b <;> by_cases hjb : j = b
      · rw [hib, hjb]
      · rw [if_pos hib, if_neg hjb] at this; exact absurd this.symm a2
      · rw [if_neg hib, if_pos hjb] at this; exact absurd this a1
      · rw [if_neg hib, if_neg hjb] at this; exact this
    base := fun id hid => Nat.lt_of_lt_of_le (h.base id hid) hm
    full := h.full
    grow := h.grow.mono fun c _ ⟨p, p1, p2⟩ => ⟨p, hD p p1, p2⟩
    old := fun p c hp => by
      have := h.old p c hp
      refine ⟨this.1, ?_⟩
      show (if _ then _ else _) = _
      rw [if_neg (by omega)]; exact this.2
    tback := h.tback
    tkeep := fun c hc hT => (h.tkeep c hc hT).imp (fun x => x) fun ⟨q, q1, q2, q3, q4⟩ => ⟨q, hD q q1, q2, hlow q q2 q3, q4⟩
    fresh := fun id c h2 h3 h4 => by
      obtain ⟨sb, hsb⟩ := Option.isSome_iff_exists.1 h2
      obtain ⟨a1, s1, l1, _, r1⟩ := hpre id sb hsb
      rw [r1] at h4
      by_cases hib : id = b
      · rw [if_pos hib] at h4
        exact .inr ⟨a, hDa, ha, hdeadA, hBa c h4⟩
      · rw [if_neg hib] at h4 l1
        exact (h.fresh id c (by rw [l1]; rfl) h3 h4).imp (fun x => x) fun ⟨q, q1, q2, q3, q4⟩ => ⟨q, hD q q1, q2, hlow q q2 q3, q4⟩
    inv := h.inv }

theorem rowedV_less {P : Program} {n : Nat} {v : SV} {s : St} : Less P n s (rowedV v s) := by
  intro B act w hB hn
  have hgo : ∀ (b : Nat) (e : TypeId) (cs : List SV) (st len : Nat), look s.store b = some (.lst e cs) → ids.idsL cs = [] → cs.length = len * st →
      Now B ⟨s.tmps, (b, some (.row e st len (fun i => cut cs (i * st) st))) :: s.store, s.nxt, s.dirty, s.nt⟩ act w := by
    intro b e cs st len hl hf hlen
    obtain ⟨h1, ρ, T, h⟩ := hn
    have hlook : ∀ id, look ((b, some (SB.row e st len (fun i => cut cs (i * st) st))) :: s.store) id = if id = b then some (SB.row e st len (fun i => cut cs (i * st) st)) else look s.store id := by
      intro id
      simp only [look]
      by_cases hid : id = b
      · subst hid; simp
      · rw [if_neg hid, show Nat.beq b id = false by rw [Bool.eq_false_iff]; intro e; exact hid (Nat.eq_of_beq_eq_true e).symm]; rfl
    have hsome : ∀ id, (look ((b, some (SB.row e st len (fun i => cut cs (i * st) st))) :: s.store) id).isSome → (look s.store id).isSome := by
      intro id hid
      rw [hlook] at hid
      by_cases hb : id = b
      · rw [hb, hl]; rfl
      · rw [if_neg hb] at hid; exact hid
    have hnone : ∀ id, look s.store id = none → look ((b, some (SB.row e st len (fun i => cut cs (i * st) st))) :: s.store) id = none := by
      intro id hid
      rw [hlook, if_neg]; · exact hid
      rintro rfl; rw [hl] at hid; cases hid
    refine ⟨h1, ρ, T, { h with
      store := fun id sb hid => ?_
      inj := fun i j c hi hj h1 h2 => h.inj i j c (hsome i hi) (hsome j hj) h1 h2
      tkeep := fun c hc hT => (h.tkeep c hc hT).imp (fun x => x) fun ⟨q, q1, q2, q3, q4⟩ => ⟨q, q1, q2, hnone q q3, q4⟩
      fresh := fun id c h2 h3 h4 => (h.fresh id c (hsome id h2) h3 h4).imp (fun x => x) fun ⟨q, q1, q2, q3, q4⟩ => ⟨q, q1, q2, hnone q q3, q4⟩ }⟩
    rw [hlook] at hid
    by_cases hb : id = b
    · rw [if_pos hb] at hid
      cases hid
      subst hb
      obtain ⟨hA, c, b1, b2, b3⟩ := h.store id _ hl
      exact ⟨hA, c, b1, b2, relB_row hf hlen b3⟩
    · rw [if_neg hb] at hid
      exact h.store id sb hid
  unfold rowedV rowify
  split
  · rename_i b st len
    split
    · rename_i e cs hl
      cases hc : (ids.idsL cs).isEmpty && Nat.beq cs.length (len * st) with
      | false => exact hn
      | true =>
        simp only [Bool.and_eq_true, List.isEmpty_iff] at hc
        exact hgo b e cs st len hl hc.1 (Nat.eq_of_beq_eq_true hc.2)
    · exact hn
  · exact hn

theorem rowed_less {P : Program} {n t : Nat} {s : St} : Less P n s (rowed t s) := rowedV_less

theorem moves_less {P : Program} {n0 : Nat} : ∀ (mv : List (Nat × Nat)) {s s' : St}, moves n0 mv s = some s' → Less P n0 s s'
  | [], s, s', h => by cases h; exact fun _ _ _ _ h => h
  | (t, b) :: r, s, s', h => by
    simp only [moves] at h
    split at h
    · exact moves_less r h
    · rename_i a _
      cases hab : Nat.beq a b with
      | true => rw [hab] at h; exact fun B act w hB hn => moves_less r h B act w hB (rowed_less B act w hB hn)
      | false =>
        rw [hab] at h
        simp only [cond_false] at h
        cases hc : Nat.ble n0 a && Nat.ble n0 b with
        | false => rw [hc] at h; cases h
        | true =>
          rw [hc] at h
          simp only [cond_true] at h
          simp only [Bool.and_eq_true] at hc
          have hne : a ≠ b := by rintro rfl; rw [Nat.beq_refl] at hab; cases hab
          intro B act w hB hn
          refine moves_less r h B act w hB (rowed_less B act w hB (mv_less hne (Nat.le_of_ble_eq_true hc.1) (Nat.le_of_ble_eq_true hc.2) ?_ ?_ B act w hB hn))
          · cases hx : Nat.ble s.nxt b with
            | true => exact Nat.le_trans (Nat.le_of_ble_eq_true hx) (Nat.le_succ _)
            | false => exact Nat.le_refl _
          · cases hx : Nat.ble s.nxt b with
            | true => exact Nat.lt_succ_self _
            | false =>
              rw [Bool.eq_false_iff] at hx
              have : ¬ s.nxt ≤ b := fun e => hx (Nat.ble_eq_true_of_le e)
              simp only [cond_false]
              omega

theorem movesP_less {P : Program} {n0 : Nat} : ∀ (mv : List ((Nat × List Nat) × Nat)) {s s' : St}, movesP n0 mv s = some s' → Less P n0 s s'
  | [], s, s', h => by cases h; exact fun _ _ _ _ h => h
  | ((t, p), b) :: r, s, s', h => by
    simp only [movesP] at h
    split at h
    · exact movesP_less r h
    · rename_i a _
      cases hab : Nat.beq a b with
      | true => rw [hab] at h; exact fun B act w hB hn => movesP_less r h B act w hB (rowedV_less B act w hB hn)
      | false =>
        rw [hab] at h
        simp only [cond_false] at h
        cases hc : Nat.ble n0 b && (Nat.ble n0 a || (look s.store a).isSome) with
        | false => rw [hc] at h; cases h
        | true =>
          rw [hc] at h
          simp only [cond_true] at h
          simp only [Bool.and_eq_true, Bool.or_eq_true] at hc
          have hne : a ≠ b := by rintro rfl; rw [Nat.beq_refl] at hab; cases hab
          have hm : s.nxt ≤ (bif Nat.ble s.nxt b then b + 1 else s.nxt) ∧ b < (bif Nat.ble s.nxt b then b + 1 else s.nxt) := by
            cases hx : Nat.ble s.nxt b with
            | true => exact ⟨Nat.le_trans (Nat.le_of_ble_eq_true hx) (Nat.le_succ _), Nat.lt_succ_self _⟩
            | false =>
              rw [Bool.eq_false_iff] at hx
              have : ¬ s.nxt ≤ b := fun e => hx (Nat.ble_eq_true_of_le e)
              simp only [cond_false]
              omega
          intro B act w hB hn
          refine movesP_less r h B act w hB (rowedV_less B act w hB ?_)
          cases hna : Nat.ble n0 a with
          | true => exact mv_less hne (Nat.le_of_ble_eq_true hna) (Nat.le_of_ble_eq_true hc.1) hm.1 hm.2 B act w hB hn
          | false =>
            rw [hna] at hc
            have hlt : a < n0 := by
              rw [Bool.eq_false_iff] at hna
              exact Nat.not_le.1 fun e => hna (Nat.ble_eq_true_of_le e)
            exact mv_less_in hne hlt (Nat.le_of_ble_eq_true hc.1) (hc.2.resolve_left (by simp)) hm.1 hm.2 B act w hB hn

theorem restrict_less {P : Program} {n0 : Nat} {R : Keep} {s s' : St} (h : restrict n0 R s = some s') : Less P n0 s s' := by
  unfold restrict at h
  cases hc : (Nat.ble n0 R.m && subs R.d s.dirty && smallT R.m (keptT s.tmps R.ts) && smallS R.m (keptS s.store R.bs)) with
  | false => rw [hc] at h; cases h
  | true =>
    rw [hc] at h
    simp only [cond_true, Option.some.injEq] at h
    subst h
    simp only [Bool.and_eq_true] at hc
    obtain ⟨⟨⟨h1, h3⟩, h4⟩, h5⟩ := hc
    exact less_of (Nat.le_of_ble_eq_true h1) (subs_ok h3) rfl (keptT_ok h4) (keptS_ok h5)
theorem keepW_weaker {P : Program} (n0 : Nat) : ∀ R : List (Nat × Keep), Weaker P n0 (keepW R n0)
  | [], blk, s, s', h => by cases h; exact fun _ _ _ _ h => h
  | (b, k) :: r, blk, s, s', h => by
    simp only [keepW] at h
    cases hb : Nat.beq b blk with
    | true =>
      rw [hb] at h
      simp only [cond_true] at h
      split at h
      · rename_i s1 hs1
        exact fun B a w hB hn => restrict_less h B a w hB (moves_less _ hs1 B a w hB hn)
      · cases h
    | false => rw [hb] at h; exact keepW_weaker n0 r blk s s' h
theorem keepP_weaker {P : Program} (n0 : Nat) : ∀ R : List (Nat × Keep × List ((Nat × List Nat) × Nat)), Weaker P n0 (keepP R n0)
  | [], blk, s, s', h => by cases h; exact fun _ _ _ _ h => h
  | (b, k, m) :: r, blk, s, s', h => by
    simp only [keepP] at h
    cases hb : Nat.beq b blk with
    | true =>
      rw [hb] at h
      simp only [cond_true] at h
      split at h
      · rename_i s1 hs1
        split at h
        · rename_i s2 hs2
          exact fun B a w hB hn => restrict_less h B a w hB (movesP_less _ hs2 B a w hB (moves_less _ hs1 B a w hB hn))
        · cases h
      · cases h
    | false => rw [hb] at h; exact keepP_weaker n0 r blk s s' h

/-- One round of a loop, and what comes behind it. -/
def roundE (env : Env) (W : Nat → St → Option St) (fn : Func) (path : List Nat) (blk : Nat) (K : Ex → St → Prop) (s : St) : Prop :=
  evalCode env W blk (codeAt (bodyOf fn) (path ++ [0])) (fun e => wk (W blk) (K e)) s
def afterE (env : Env) (W : Nat → St → Option St) (fn : Func) (path : List Nat) (n0 : Nat) (K : KC) : Ex → St → Prop :=
  ctxK env W 1000000 (bodyOf fn) path (finK env fn n0 K)
def loopE (env : Env) (W : Nat → St → Option St) (fn : Func) (path : List Nat) (blk n0 : Nat) (K : KC) : Nat → St → Prop :=
  iter (roundE env W fn path blk) (afterE env W fn path n0 K)

theorem loopE_succ {env : Env} {W : Nat → St → Option St} {fn : Func} {path : List Nat} {blk n0 : Nat} {K : KC} {n : Nat} {s : St} :
    loopE env W fn path blk n0 K (n + 1) s = roundE env W fn path blk (fun e s => match e with
      | .normal => loopE env W fn path blk n0 K n s
      | e => afterE env W fn path n0 K e s) s := rfl
end Go.Se

/- Part 18: what is known of calls, put together. -/
namespace Go.Se
variable {P : Program}

mutual
def ok : SV → Prop
  | .int k n => k.min ≤ n ∧ n ≤ k.max
  | .str s => s.size < 9223372036854775808
  | .rptr cs => okL cs
  | .agg cs => okL cs
  | .tup cs => okL cs
  | .arr _ _ len _ => len < 9223372036854775808
  | .own _ _ _ len => len < 9223372036854775808
  | .ro len _ get => len < 9223372036854775808 ∧ ∀ i, i < len → okL (get i)
  | .iface _ x => ok x
  | _ => True
def okL : List SV → Prop
  | [] => True
  | a :: l => ok a ∧ okL l
end

def okB : SB → Prop
  | .cells _ cs => okL cs
  | .lst _ cs => okL cs
  | .row _ _ len g => ∀ i, i < len → okL (g i)
  | .loop _ _ _ _ _ _ => True
  | .iter s _ => s.size < 9223372036854775808

def okS : List (Option SB) → Prop
  | [] => True
  | some b :: l => okB b ∧ okS l
  | none :: l => okS l

section
variable {T : Nat → Prop} {w : World}
mutual
theorem rel_ok {ρ : Names} : ∀ (a : SV) (v : Value), rel ρ T w a v → ok a
  | .junk, _, _ => trivial
  | .int _ _, _, ⟨_, h⟩ => h
  | .bool _, _, _ => trivial
  | .str _, _, ⟨_, h⟩ => h
  | .nilp, _, _ => trivial
  | .ptr _ _, _, _ => trivial
  | .eptr _ _ _ _, _, _ => trivial
  | .rptr cs, _, ⟨b, o, _, _, _, h⟩ => relAt_ok cs b o h
  | .fn _ _ _, _, _ => trivial
  | .nilfn, _, _ => trivial
  | .agg cs, _, ⟨_, _, h⟩ => relL_ok cs _ h
  | .tup cs, _, ⟨_, _, h⟩ => relL_ok cs _ h
  | .nils, _, _ => trivial
  | .emp, _, _ => trivial
  | .arr _ _ _ _, _, ⟨_, h⟩ => h
  | .own _ _ _ _, _, ⟨_, _, _, _, h1, h2, _⟩ => Nat.lt_of_le_of_lt h1 h2
  | .ro len st g, _, ⟨_, _, _, h1, h2⟩ => ⟨h1.2.1, fun i hi => by
      obtain ⟨b, off, _, _, _, h⟩ := h2 (Nat.lt_of_le_of_lt (Nat.zero_le _) hi)
      exact relAt_ok (g i) _ _ (h i hi)⟩
  | .nilI, _, _ => trivial
  | .iface _ x, _, ⟨y, _, h⟩ => rel_ok x y h
  | .yld _, _, _ => trivial
theorem relL_ok {ρ : Names} : ∀ (l : List SV) (m : List Value), relL ρ T w l m → okL l
  | [], _, _ => trivial
  | a :: l, _, ⟨v, r, _, h, h'⟩ => ⟨rel_ok a v h, relL_ok l r h'⟩
theorem relAt_ok : ∀ (l : List SV) (b o : Nat), relAt T w l b o → okL l
  | [], _, _, _ => trivial
  | a :: l, b, o, ⟨⟨v, _, h⟩, h'⟩ => ⟨rel_ok a v h, relAt_ok l b (o + 1) h'⟩
end

theorem relB_ok {ρ : Names} {sb : SB} {b : Nat} (h : relB ρ T w sb b) : okB sb := by
  cases sb with
  | cells e cs => obtain ⟨_, _, h⟩ := h; exact relL_ok _ _ h
  | lst e cs => obtain ⟨_, _, m, _, _, h⟩ := h; exact relL_ok _ _ h
  | row e st len g => obtain ⟨_, _, _, h⟩ := h; exact fun i hi => relL_ok _ _ (h i hi)
  | loop tm nt ps as bd pend => exact trivial
  | iter s pos => obtain ⟨_, _, _, h⟩ := h; exact h

theorem okS_of : ∀ (σ : List (Option SB)), (∀ sb, some sb ∈ σ → okB sb) → okS σ
  | [], _ => trivial
  | some b :: l, h => ⟨h b (List.mem_cons_self ..), okS_of l fun sb hs => h sb (List.mem_cons_of_mem _ hs)⟩
  | none :: l, h => okS_of l fun sb hs => h sb (List.mem_cons_of_mem _ hs)
end

theorem callOK_of_ok {k : FuncId} {xs : List SV} {σ : List (Option SB)} {v : SV} {σ' : List (Option SB)} {d : List Nat}
    (h : okL xs → okS σ → CallOK P k xs σ v σ' d) : CallOK P k xs σ v σ' d := by
  intro ρ T w vals h1 h2 h3 h4
  refine h (relL_ok _ _ h1) (okS_of _ fun sb hs => ?_) ρ T w vals h1 h2 h3 h4
  obtain ⟨p, hp, e⟩ := List.getElem_of_mem hs
  obtain ⟨sb', b, e1, _, _, e2⟩ := h2 p hp
  rw [List.getElem?_eq_getElem hp, e, Option.some.injEq, Option.some.injEq] at e1
  subst e1
  exact relB_ok e2

/-- What is known of calls. -/
structure Know (P : Program) where
  G : FuncId → List SV → List (Option SB) → KC → Prop
  ok : ∀ k xs σ, Sat P k xs σ (G k xs σ)
  dom : FuncId → Bool

def Know.none (P : Program) : Know P := ⟨fun _ _ _ _ => False, fun _ _ _ _ h => h.elim, fun _ => false⟩

def Know.add {P : Program} (B : Know P) (k : FuncId) (C : List SV → List (Option SB) → KC → Prop) (h : ∀ xs σ, Sat P k xs σ (C xs σ)) : Know P where
  G := fun j xs σ K => bif Nat.beq j k then C xs σ K else B.G j xs σ K
  ok := fun j xs σ => by
    cases hb : Nat.beq j k with
    | true => rw [Nat.eq_of_beq_eq_true hb]; simpa using h xs σ
    | false => simpa using B.ok j xs σ
  dom := fun j => Nat.beq j k || B.dom j

abbrev Out := Option (SV × List (Option SB) × List Nat)

/-- A call that comes to one end. -/
def one (c : List SV → List (Option SB) → Out) (xs : List SV) (σ : List (Option SB)) (K : KC) : Prop :=
  match c xs σ with
  | some (v, σ', d) => K v σ' d
  | none => False

theorem one_sat {k : FuncId} {c : List SV → List (Option SB) → Out} (h : ∀ xs σ v σ' d, c xs σ = some (v, σ', d) → CallOK P k xs σ v σ' d) (xs : List SV) (σ : List (Option SB)) : Sat P k xs σ (one c xs σ) := by
  intro K hK
  unfold one at hK
  split at hK
  · rename_i v σ' d hc
    exact ⟨v, σ', d, hK, h _ _ _ _ _ hc⟩
  · exact hK.elim

/-- A call that comes to one end, under a condition. -/
def oneIf (c : List SV → List (Option SB) → Option (Bool × SV × List (Option SB) × List Nat)) (xs : List SV) (σ : List (Option SB)) (K : KC) : Prop :=
  match c xs σ with
  | some (b, v, σ', d) => match b with
    | true => K v σ' d
    | false => False
  | none => False

theorem oneIf_sat {k : FuncId} {c : List SV → List (Option SB) → Option (Bool × SV × List (Option SB) × List Nat)} (h : ∀ xs σ v σ' d, c xs σ = some (true, v, σ', d) → CallOK P k xs σ v σ' d) (xs : List SV) (σ : List (Option SB)) : Sat P k xs σ (oneIf c xs σ) := by
  intro K hK
  unfold oneIf at hK
  split at hK
  · rename_i b v σ' d hc
    cases b
    · exact hK.elim
    · exact ⟨v, σ', d, hK, h _ _ _ _ _ hc⟩
  · exact hK.elim

/-- A program's table, told. -/
structure Tab (P : Program) where
  tt : TypeId → Option TI
  ft : FuncId → Option Func
  htt : ∀ t ti, tt t = some ti → TIok P t ti
  hft : ∀ k fn, ft k = some fn → P.funcs[k]? = some fn ∧ (fn.name == "runtime.NumGoroutine") = false
  mixed : P.follows .mixedOrders = true

def Tab.env {P : Program} (A : Tab P) (B : Know P) (unroll : Nat → Nat) (cut : Nat → Bool) : Env :=
  { tt := A.tt, ft := A.ft, callee := B.G, view := fun _ => false, unroll := unroll, cut := cut }

theorem callOK_of_calls (A : Tab P) (B : Know P) {R : List (Nat × Keep)} {unroll : Nat → Nat} {cut : Nat → Bool} {known : FuncId → Bool} {n : Nat} {k : FuncId} {xs : List SV} {σ : List (Option SB)} {v : SV} {σ' : List (Option SB)} {d : List Nat}
    (h : okL xs → okS σ → calls (A.env B unroll cut) (keepW R) known n k xs σ fun v' σ'' d' => v' = v ∧ σ'' = σ' ∧ d' = d) : CallOK P k xs σ v σ' d := by
  refine callOK_of_ok fun h1 h2 => ?_
  obtain ⟨v', σ'', d', ⟨rfl, rfl, rfl⟩, hc⟩ := calls_sat (env := A.env B unroll cut) ⟨A.htt, B.ok⟩ A.mixed (fun n => keepW_weaker n R) A.hft n k xs σ _ (h h1 h2)
  exact hc

/-- A call of what the model itself has. -/
theorem callOK_extern {k : FuncId} {fn : Func} {e : Array Value → Sem Value} (hf : P.funcs[k]? = some fn) (hname : (fn.name == "runtime.NumGoroutine") = false) (hb : fn.body.isNone = true)
    (hn : Extern.findNext fn = none) (he : Extern.find fn = some e) {xs : List SV} {v : SV}
    (h : ∀ (T : Nat → Prop) (w : World) (vals : Array Value), relL (fun _ => none) T w xs vals.toList → ∃ x, (e vals).run P w = .ok x w ∧ rel (fun _ => none) T w v x) : CallOK P k xs [] v [] [] := by
  intro ρ T w vals h1 _ h3 h4
  have hρ : ρ = fun _ => none := by
    funext p
    cases hp : ρ p with
    | none => rfl
    | some b => exact absurd (h4 p b hp).1 (Nat.not_lt_zero _)
  subst hρ
  obtain ⟨x, hx, hr⟩ := h T w vals h1
  refine .inr ⟨x, w, ?_, fun _ => none, T, {
    names := fun _ _ h => h
    only := fun _ _ h => by cases h
    len := Nat.le_refl _
    val := hr
    store := fun p sb h => by simp at h
    fresh := fun _ _ _ h => by cases h
    inj := fun _ _ _ _ _ h => by cases h
    dirty := fun _ h => by cases h
    grow := Grow.refl _ _
    tback := fun _ _ h => h
    below := fun _ _ h => by cases h
    tkeep := fun _ _ h => .inl h }⟩
  rw [run_callFunc_extern hf hname hb hn he, hx]
  rfl

/-! ### The carries of math/bits. -/
def add64 : List SV → List (Option SB) → KC → Prop
  | [.int .u64 a, .int .u64 b, .int .u64 c], [], K => If (decide (0 ≤ c) && decide (c ≤ 1)) (K (.tup [.int .u64 ((a + b + c) % 18446744073709551616), .int .u64 ((a + b + c) / 18446744073709551616)]) [] [])
  | _, _, _ => False
def sub64 : List SV → List (Option SB) → KC → Prop
  | [.int .u64 a, .int .u64 b, .int .u64 c], [], K => If (decide (0 ≤ c) && decide (c ≤ 1)) (K (.tup [.int .u64 ((a - b - c) % 18446744073709551616), .int .u64 (bif decide (a < b + c) then 1 else 0)]) [] [])
  | _, _, _ => False

theorem If.get {c : Bool} {A : Prop} (h : If c A) : c = true ∧ A := by
  cases c
  · exact h.elim
  · exact ⟨rfl, h⟩

theorem three_args {ρ : Names} {T : Nat → Prop} {w : World} {x y z : SV} {vals : Array Value} (h : relL ρ T w [x, y, z] vals.toList) : ∃ a b c, vals = #[a, b, c] ∧ rel ρ T w x a ∧ rel ρ T w y b ∧ rel ρ T w z c := by
  obtain ⟨a, r, h1, ha, b, s, h2, hb, c, t, h3, hc, h4⟩ := h
  cases h4
  subst h3; subst h2
  exact ⟨a, b, c, by rw [← Array.toList_inj, h1], ha, hb, hc⟩

def addF : Array Value → Sem Value := fun args => do
  let (x, y, c) ← Extern.MathBitsCarry.three "Add64" args
  pure (Extern.MathBitsCarry.pair ((x + y + c) % Extern.MathBitsCarry.m64) ((x + y + c) / Extern.MathBitsCarry.m64))
def subF : Array Value → Sem Value := fun args => do
  let (x, y, b) ← Extern.MathBitsCarry.three "Sub64" args
  pure (Extern.MathBitsCarry.pair ((x + Extern.MathBitsCarry.m64 - y - b) % Extern.MathBitsCarry.m64) (if x < y + b then 1 else 0))

theorem three_run {w : World} (s : String) {a b c : Int} (hc : c.toNat ≤ 1) : (Extern.MathBitsCarry.three s #[.int .u64 a, .int .u64 b, .int .u64 c]).run P w = .ok (a.toNat, b.toNat, c.toNat) w := by
  show (do
    let c := (← asInt (.int .u64 c)).toNat
    if c > 1 then unsupported (.noEntry ("extern/math/bits." ++ s ++ ": a carry that is neither 0 nor 1"))
    pure ((← asInt (.int .u64 a)).toNat, (← asInt (.int .u64 b)).toNat, c) : Sem (Nat × Nat × Nat)).run P w = _
  simp only [asInt, asIntOf, Sem.run_bind, Sem.run_pure, Result.andThen_ok]
  rw [if_neg (by omega)]
  rfl

theorem rel_pair {ρ : Names} {T : Nat → Prop} {w : World} {m n : Nat} {a b : Int} (ha : a = (m : Int)) (hb : b = (n : Int)) (hm : m < 18446744073709551616) (hn : n < 18446744073709551616) :
    rel ρ T w (.tup [.int .u64 a, .int .u64 b]) (Extern.MathBitsCarry.pair m n) := by
  subst ha; subst hb
  refine ⟨_, rfl, _, _, rfl, ⟨rfl, ?_⟩, _, _, rfl, ⟨rfl, ?_⟩, rfl⟩
  · show (0 : Int) ≤ _ ∧ _ ≤ (18446744073709551615 : Int)
    omega
  · show (0 : Int) ≤ _ ∧ _ ≤ (18446744073709551615 : Int)
    omega

theorem add64_sat {k : FuncId} {fn : Func} (hf : P.funcs[k]? = some fn) (hname : (fn.name == "runtime.NumGoroutine") = false) (hb : fn.body.isNone = true)
    (hn : Extern.findNext fn = none) (he : Extern.find fn = some addF) (xs : List SV) (σ : List (Option SB)) : Sat P k xs σ (add64 xs σ) := by
  intro K hK
  unfold add64 at hK
  split at hK
  · rename_i a b c
    obtain ⟨hc, hK⟩ := If.get hK
    refine ⟨_, _, _, hK, callOK_extern hf hname hb hn he fun T w vals hv => ?_⟩
    obtain ⟨_, _, _, rfl, ⟨rfl, ha⟩, ⟨rfl, hb⟩, ⟨rfl, hc'⟩⟩ := three_args hv
    have ha' : 0 ≤ a ∧ a ≤ 18446744073709551615 := ha
    have hb' : 0 ≤ b ∧ b ≤ 18446744073709551615 := hb
    simp only [Bool.and_eq_true, decide_eq_true_eq] at hc
    refine ⟨_, by rw [addF, Sem.run_bind, three_run _ (by omega)]; rfl, rel_pair ?_ ?_ ?_ ?_⟩ <;> unfold Extern.MathBitsCarry.m64 <;> omega
  · exact hK.elim

theorem sub64_sat {k : FuncId} {fn : Func} (hf : P.funcs[k]? = some fn) (hname : (fn.name == "runtime.NumGoroutine") = false) (hb : fn.body.isNone = true)
    (hn : Extern.findNext fn = none) (he : Extern.find fn = some subF) (xs : List SV) (σ : List (Option SB)) : Sat P k xs σ (sub64 xs σ) := by
  intro K hK
  unfold sub64 at hK
  split at hK
  · rename_i a b c
    obtain ⟨hc, hK⟩ := If.get hK
    refine ⟨_, _, _, hK, callOK_extern hf hname hb hn he fun T w vals hv => ?_⟩
    obtain ⟨_, _, _, rfl, ⟨rfl, ha⟩, ⟨rfl, hb⟩, ⟨rfl, hc'⟩⟩ := three_args hv
    have ha' : 0 ≤ a ∧ a ≤ 18446744073709551615 := ha
    have hb' : 0 ≤ b ∧ b ≤ 18446744073709551615 := hb
    simp only [Bool.and_eq_true, decide_eq_true_eq] at hc
    refine ⟨_, by rw [subF, Sem.run_bind, three_run _ (by omega)]; rfl, rel_pair ?_ ?_ ?_ ?_⟩
    · unfold Extern.MathBitsCarry.m64; omega
    · by_cases h : a < b + c
      · rw [if_pos (by omega), decide_eq_true h]; rfl
      · rw [if_neg (by omega), decide_eq_false h]; rfl
    · unfold Extern.MathBitsCarry.m64; omega
    · split <;> omega
  · exact hK.elim
end Go.Se

