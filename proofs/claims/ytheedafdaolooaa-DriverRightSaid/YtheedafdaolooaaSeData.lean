/- Part 16: data that come in, as shaped values. -/
import Derived.Test.YtheedafdaolooaaSeFn
import Derived.ProofKit
import Derived.OpenShut
namespace Go.Se
variable {P : Program}

/-- Data of a plain type: what stands at each place. -/
structure Val where
  int : List Nat → Int
  bool : List Nat → Bool
  str : List Nat → ByteArray
  len : List Nat → Nat

def Val.sub (V : Val) (i : Nat) : Val := ⟨fun q => V.int (i :: q), fun q => V.bool (i :: q), fun q => V.str (i :: q), fun q => V.len (i :: q)⟩

def Val.zero : Val := ⟨fun _ => 0, fun _ => false, fun _ => ByteArray.empty, fun _ => 0⟩

/-- Data put together. -/
def Val.join (n : Int) (b : Bool) (s : ByteArray) (l : Nat) (F : Nat → Val) : Val :=
  ⟨fun | [] => n | i :: q => (F i).int q, fun | [] => b | i :: q => (F i).bool q, fun | [] => s | i :: q => (F i).str q, fun | [] => l | i :: q => (F i).len q⟩

theorem Val.sub_join (n : Int) (b : Bool) (s : ByteArray) (l : Nat) (F : Nat → Val) (i : Nat) : (Val.join n b s l F).sub i = F i := rfl

def mkF (M : TypeId → Val → List SV) : Nat → List (Nat × TypeId) → Val → List SV
  | _, [], _ => []
  | i, (_, t) :: fs, V => M t (V.sub i) ++ mkF M (i + 1) fs V

def mkN (M : Val → List SV) : Nat → Nat → Val → List SV
  | _, 0, _ => []
  | i, n + 1, V => M (V.sub i) ++ mkN M (i + 1) n V

/-- The cells of data. -/
def mk (tt : TypeId → Option TI) : Nat → TypeId → Val → List SV
  | 0, _, _ => []
  | d + 1, t, V => match tt t with
    | none => []
    | some ti => match ti.kind with
      | .bool => [.bool (V.bool [])]
      | .int k => [.int k (V.int [])]
      | .string => [.str (V.str [])]
      | .slice e => match tt e with
        | some te => [.ro (V.len []) te.size fun i => mk tt d e (V.sub i)]
        | none => []
      | .struct fs => mkF (mk tt d) 0 fs V
      | .array n e => mkN (mk tt d e) 0 n V
      | _ => []

/-- Where each field lies: one behind the other. -/
def contig (tt : TypeId → Option TI) : Nat → List (Nat × TypeId) → Option Nat
  | o, [] => some o
  | o, (off, t) :: fs => match tt t with
    | some ti => bif Nat.beq off o then contig tt (o + ti.size) fs else none
    | none => none

/-- A type of numbers, bools, strings, and slices, structs and arrays of such. -/
def plain (tt : TypeId → Option TI) : Nat → TypeId → Bool
  | 0, _ => false
  | d + 1, t => match tt t with
    | none => false
    | some ti => match ti.kind with
      | .bool => true
      | .int _ => true
      | .string => true
      | .slice e => plain tt d e && (match tt e with | some te => Nat.blt 0 te.size | none => false)
      | .struct fs => fs.all (fun f => plain tt d f.2) && (match contig tt 0 fs with | some n => Nat.beq n ti.size | none => false)
      | .array n e => plain tt d e && (match tt e with | some te => Nat.beq (n * te.size) ti.size | none => false)
      | _ => false

theorem mapM_some {α β : Type} {f : α → Option β} : ∀ {l : List α} {r : List β}, l.mapM f = some r → ∀ (i : Nat) x, l[i]? = some x → ∃ y, r[i]? = some y ∧ f x = some y
  | [], r, _, i, x, h => by simp at h
  | a :: l, r, hm, i, x, h => by
    rw [List.mapM_cons] at hm
    cases ha : f a with
    | none => rw [ha] at hm; simp at hm
    | some b =>
      rw [ha] at hm
      cases hl : l.mapM f with
      | none => rw [hl] at hm; simp at hm
      | some bs =>
        rw [hl] at hm
        simp at hm
        subst hm
        cases i with
        | zero => simp at h; subst h; exact ⟨b, by simp, ha⟩
        | succ i => simpa using mapM_some hl i x (by simpa using h)

theorem mapM_len {α β : Type} {f : α → Option β} : ∀ {l : List α} {r : List β}, l.mapM f = some r → r.length = l.length
  | [], r, hm => by simp at hm; subst hm; rfl
  | a :: l, r, hm => by
    rw [List.mapM_cons] at hm
    cases ha : f a with
    | none => rw [ha] at hm; simp at hm
    | some b =>
      rw [ha] at hm
      cases hl : l.mapM f with
      | none => rw [hl] at hm; simp at hm
      | some bs =>
        rw [hl] at hm
        simp at hm
        subst hm
        simp [mapM_len hl]

theorem relL_relAt {T : Nat → Prop} {w : World} {b : Nat} : ∀ {xs : List SV} {cs : List Value} {o : Nat}, relL (fun _ => none) T w xs cs → (∀ j c, cs[j]? = some c → w.cell? ⟨b, o + j, none⟩ = some c) → relAt T w xs b o
  | [], cs, o, _, _ => trivial
  | x :: xs, cs, o, ⟨v, r, h1, h2, h3⟩, hc => by
    subst h1
    refine ⟨⟨v, hc 0 v (by simp), h2⟩, relL_relAt h3 fun j c hj => ?_⟩
    have := hc (j + 1) c (by simpa using hj)
    rw [show o + 1 + j = o + (j + 1) by omega]; exact this

section
variable {H : Type} {enc : TypeId × Value → H} {w : World} {tt : TypeId → Option TI}

theorem cellsOf_TI {t : TypeId} {ti : TI} (h : TIok P t ti) : P.cellsOf t = ti.size := by
  obtain ⟨⟨i, hi, h1, _⟩, _⟩ := h
  simp [Program.cellsOf, hi, h1]

theorem cells_get {base : Nat} {a : Addr} {n : Nat} {cs : List Value} (h : w.cells? base a n = some cs) : cs.length = n ∧ ∀ j, j < n → w.cell? (a.add j) = cs[j]? := by
  unfold World.cells? at h
  split at h
  · refine ⟨by simpa using mapM_len h, fun j hj => ?_⟩
    obtain ⟨y, h1, h2⟩ := mapM_some h j j (by simp [hj])
    rw [h1]; exact h2
  · cases h

/-- Fields, one behind the other. -/
theorem fields_mk {M : TypeId → Val → List SV} {gs : List Field} {cs : List Value} (htt : ∀ t ti, tt t = some ti → TIok P t ti) :
    ∀ (fs : List (Nat × TypeId)) (o k n : Nat), contig tt o fs = some n → o ≤ cs.length → n ≤ cs.length →
      (∀ (i off : Nat) (t : TypeId), fs[i]? = some (off, t) → ∃ V, relL (fun _ => none) (fun _ => False) w (M t V) ((cs.drop off).take (P.cellsOf t))) →
      ∃ F : Nat → Val, ∀ V : Val, (∀ i, k ≤ i → V.sub i = F i) → relL (fun _ => none) (fun _ => False) w (mkF M k fs V) ((cs.drop o).take (n - o)) ∧ o ≤ n
  | [], o, k, n, hc, ho, hn, _ => by
    simp only [contig, Option.some.injEq] at hc
    subst hc
    exact ⟨fun _ => Val.zero, fun V _ => ⟨by simp [mkF, relL], Nat.le_refl _⟩⟩
  | (off, t) :: fs, o, k, n, hc, ho, hn, hf => by
    simp only [contig] at hc
    split at hc
    · rename_i ti ht
      cases hb : Nat.beq off o with
      | false => rw [hb] at hc; cases hc
      | true =>
        rw [hb] at hc
        simp only [cond_true] at hc
        have hoff := Nat.eq_of_beq_eq_true hb
        subst hoff
        have hsz := cellsOf_TI (htt _ _ ht)
        obtain ⟨V0, hV0⟩ := hf 0 off t (by simp)
        -- how far the rest goes
        have hmono : ∀ (fs : List (Nat × TypeId)) (o n : Nat), contig tt o fs = some n → o ≤ n := by
          intro fs
          induction fs with
          | nil => intro o n h; simp only [contig, Option.some.injEq] at h; omega
          | cons p fs ih =>
            intro o n h
            obtain ⟨off', t'⟩ := p
            simp only [contig] at h
            split at h
            · rename_i ti' _
              cases hb' : Nat.beq off' o with
              | false => rw [hb'] at h; cases h
              | true => rw [hb'] at h; have := ih _ _ h; omega
            · cases h
        have hle := hmono _ _ _ hc
        obtain ⟨F, hF⟩ := fields_mk (M := M) (gs := gs) htt fs (off + ti.size) (k + 1) n hc (by omega) hn (fun i off' t' h => hf (i + 1) off' t' (by simpa using h))
        refine ⟨fun i => if i = k then V0 else F i, fun V hV => ⟨?_, by omega⟩⟩
        obtain ⟨h1, _⟩ := hF V fun i hi => (hV i (by omega)).trans (if_neg (by omega))
        simp only [mkF]
        rw [(hV k (Nat.le_refl _)).trans (if_pos rfl)]
        have hsplit : (cs.drop off).take (n - off) = (cs.drop off).take ti.size ++ (cs.drop (off + ti.size)).take (n - (off + ti.size)) := by
          rw [show n - off = ti.size + (n - (off + ti.size)) by omega, List.take_add, List.drop_drop]
        rw [hsplit]
        rw [hsz] at hV0
        exact relL_append hV0 h1
    · cases hc

theorem elems_mk {M : Val → List SV} {cs : List Value} {size : Nat} : ∀ (n k : Nat), (k + n) * size ≤ cs.length →
      (∀ i, k ≤ i → i < k + n → ∃ V, relL (fun _ => none) (fun _ => False) w (M V) ((cs.drop (i * size)).take size)) →
      ∃ F : Nat → Val, ∀ V : Val, (∀ i, k ≤ i → V.sub i = F i) → relL (fun _ => none) (fun _ => False) w (mkN M k n V) ((cs.drop (k * size)).take (n * size))
  | 0, k, _, _ => ⟨fun _ => Val.zero, fun V _ => by simp [mkN, relL]⟩
  | n + 1, k, hle, hf => by
    obtain ⟨V0, hV0⟩ := hf k (Nat.le_refl _) (by omega)
    obtain ⟨F, hF⟩ := elems_mk (M := M) (cs := cs) (size := size) n (k + 1) (by rw [show k + 1 + n = k + (n + 1) by omega]; exact hle) (fun i h1 h2 => hf i (by omega) (by omega))
    refine ⟨fun i => if i = k then V0 else F i, fun V hV => ?_⟩
    have h1 := hF V fun i hi => (hV i (by omega)).trans (if_neg (by omega))
    simp only [mkN]
    rw [(hV k (Nat.le_refl _)).trans (if_pos rfl)]
    have hsplit : (cs.drop (k * size)).take ((n + 1) * size) = (cs.drop (k * size)).take size ++ (cs.drop ((k + 1) * size)).take (n * size) := by
      rw [show (n + 1) * size = size + n * size by rw [Nat.succ_mul, Nat.add_comm], List.take_add, List.drop_drop, show k * size + size = (k + 1) * size by rw [Nat.succ_mul]]
    rw [hsplit]
    exact relL_append hV0 h1

theorem trod_mk (htt : ∀ t ti, tt t = some ti → TIok P t ti) : ∀ (d : Nat) (t : TypeId) (fuel : Nat) (cs : List Value) (x : DataW H × List MemPlace),
    plain tt d t = true → DataW.trod enc P w 0 (fun _ => true) true fuel t cs = some x →
    ∃ V, relL (fun _ => none) (fun _ => False) w (mk tt d t V) cs
  | 0, t, fuel, cs, x, hp, h => by cases hp
  | d + 1, t, fuel, cs, x, hp, h => by
    simp only [plain] at hp
    split at hp
    · cases hp
    · rename_i ti ht
      have hti := htt _ _ ht
      cases hk : ti.kind <;> simp only [hk] at hp <;> try (cases hp; done)
      case bool =>
        obtain ⟨b, rfl, _⟩ := DataW.trod_bool (kind_bool hti hk) h
        exact ⟨Val.join 0 b ByteArray.empty 0 fun _ => Val.zero, by simp only [mk, ht, hk]; exact ⟨_, _, rfl, rfl, rfl⟩⟩
      case int k =>
        obtain ⟨n, rfl, _, hw⟩ := DataW.trod_int (kind_int hti hk) h
        simp only [Lit.wf, Bool.and_eq_true, decide_eq_true_eq] at hw
        exact ⟨Val.join n false ByteArray.empty 0 fun _ => Val.zero, by simp only [mk, ht, hk]; exact ⟨_, _, rfl, ⟨rfl, hw⟩, rfl⟩⟩
      case string =>
        obtain ⟨s, rfl, _, hs⟩ := DataW.trod_string (kind_string hti hk) h
        have hs' : s.size < 9223372036854775808 := by unfold maxLen at hs; omega
        exact ⟨Val.join 0 false s 0 fun _ => Val.zero, by simp only [mk, ht, hk]; exact ⟨_, _, rfl, ⟨rfl, hs'⟩, rfl⟩⟩
      case slice e =>
        simp only [Bool.and_eq_true] at hp
        obtain ⟨hpe, hsz⟩ := hp
        split at hsz
        · rename_i te hte
          have hsz' : 0 < te.size := by simpa using hsz
          rcases DataW.trod_slice (kind_slice hti hk) h with ⟨rfl, _⟩ | ⟨a, len, cap, elems, rest, n, rfl, rfl, _, _, hlc, hcm, hel, hread, _, _⟩
          · refine ⟨Val.join 0 false ByteArray.empty 0 fun _ => Val.zero, ?_⟩
            simp only [mk, ht, hk, hte]
            exact ⟨_, _, rfl, ⟨none, 0, rfl, by show (0 : Nat) < _; decide, fun h0 => absurd h0 (Nat.lt_irrefl 0)⟩, rfl⟩
          · have hcells := cellsOf_TI (htt _ _ hte)
            have hone : ∀ i, i < len → ∃ V, ∃ cs, w.cells? 0 (a.add (i * te.size)) te.size = some cs ∧ relL (fun _ => none) (fun _ => False) w (mk tt d e V) cs := by
              intro i hi
              have h1 := hread i hi
              rw [hcells] at h1
              rw [List.getElem?_eq_getElem (by omega)] at h1
              obtain ⟨cs', h2, h3⟩ := Option.bind_eq_some_iff.1 h1
              obtain ⟨V, hV⟩ := trod_mk htt d e n cs' _ hpe h3
              exact ⟨V, cs', h2, hV⟩
            have hex : ∃ F : Nat → Val, ∀ i, i < len → ∃ cs, w.cells? 0 (a.add (i * te.size)) te.size = some cs ∧ relL (fun _ => none) (fun _ => False) w (mk tt d e (F i)) cs := by
              classical
              exact ⟨fun i => if h : i < len then (hone i h).choose else Val.zero, fun i hi => by simp only [hi, dif_pos]; exact (hone i hi).choose_spec⟩
            obtain ⟨F, hF⟩ := hex
            refine ⟨Val.join 0 false ByteArray.empty len F, ?_⟩
            simp only [mk, ht, hk, hte]
            refine ⟨_, _, rfl, ⟨some a, cap, rfl, ?_, fun h0 => ?_⟩, rfl⟩
            · show len < _
              unfold maxLen at hcm; omega
            · have h0' : 0 < len := h0
              obtain ⟨b, off, sp⟩ := a
              obtain ⟨cs0, h1, _⟩ := hF 0 h0'
              obtain ⟨h2, h3⟩ := cells_get h1
              have h4 := h3 0 hsz'
              have hadd : (Addr.mk b off sp).add (0 * te.size) = ⟨b, off, sp⟩ := by simp [Addr.add]
              have hadd0 : (Addr.mk b off sp).add 0 = ⟨b, off, sp⟩ := by simp [Addr.add]
              rw [hadd, hadd0, List.getElem?_eq_getElem (by omega)] at h4
              have hsp : sp = none := by
                unfold World.cell? at h4
                cases sp with
                | none => rfl
                | some s =>
                  simp only at h4
                  split at h4
                  · simp at h4
                  · cases h4
              subst hsp
              refine ⟨b, off, rfl, lt_of_cell h4, fun h => h, fun i hi => ?_⟩
              obtain ⟨cs', h5, h6⟩ := hF i hi
              obtain ⟨h7, h8⟩ := cells_get h5
              have h6' : relL (fun _ => none) (fun _ => False) w (mk tt d e ((Val.join 0 false ByteArray.empty len F).sub i)) cs' := h6
              refine relL_relAt h6' fun j c hj => ?_
              have hj' : j < te.size := by have := (List.getElem?_eq_some_iff.1 hj).1; omega
              have := h8 j hj'
              rw [add_off, add_off] at this
              rw [this]; exact hj
        · cases hsz
      case struct fs =>
        simp only [Bool.and_eq_true, List.all_eq_true] at hp
        obtain ⟨hpf, hc⟩ := hp
        split at hc
        · rename_i n hn
          have hn' := Nat.eq_of_beq_eq_true hc
          obtain ⟨gs, hgs, hfs, _⟩ := kind_struct hti hk
          obtain ⟨xs, m, rfl, _, hlen, hxs, hread⟩ := DataW.trod_struct hgs h
          have hcl := cellsOf_TI hti
          have hfield : ∀ (i off : Nat) (t' : TypeId), fs[i]? = some (off, t') → ∃ V, relL (fun _ => none) (fun _ => False) w (mk tt d t' V) ((cs.drop off).take (P.cellsOf t')) := by
            intro i off t' hi
            rw [hfs, List.getElem?_map] at hi
            cases hg : gs.toList[i]? with
            | none => rw [hg] at hi; cases hi
            | some g =>
              rw [hg] at hi
              simp only [Option.map_some, Option.some.injEq, Prod.mk.injEq] at hi
              obtain ⟨rfl, rfl⟩ := hi
              have hr := hread i g (by simpa using hg)
              have hlt : i < xs.length := by have := (List.getElem?_eq_some_iff.1 hg).1; simp at this; omega
              rw [List.getElem?_eq_getElem hlt] at hr
              exact trod_mk htt d g.type m _ _ (hpf (g.offset, g.type) (by rw [hfs]; exact List.mem_map.2 ⟨g, List.mem_of_getElem? hg, rfl⟩)) hr
          obtain ⟨F, hF⟩ := fields_mk (M := mk tt d) (gs := gs.toList) htt fs 0 0 n hn (Nat.zero_le _) (by omega) hfield
          refine ⟨Val.join 0 false ByteArray.empty 0 F, ?_⟩
          obtain ⟨h1, _⟩ := hF (Val.join 0 false ByteArray.empty 0 F) fun i _ => rfl
          simp only [mk, ht, hk]
          rw [List.drop_zero, Nat.sub_zero, List.take_of_length_le (by omega)] at h1
          exact h1
        · cases hc
      case array n e =>
        simp only [Bool.and_eq_true] at hp
        obtain ⟨hpe, hsz⟩ := hp
        split at hsz
        · rename_i te hte
          have hsz' := Nat.eq_of_beq_eq_true hsz
          obtain ⟨xs, m, rfl, _, hlen, hxs, hread⟩ := DataW.trod_array (kind_array hti hk) h
          have hcl := cellsOf_TI hti
          have hcells := cellsOf_TI (htt _ _ hte)
          obtain ⟨F, hF⟩ := elems_mk (w := w) (M := mk tt d e) (cs := cs) (size := te.size) n 0 (by rw [Nat.zero_add]; omega) (fun i _ hi => by
            have hr := hread i (by omega)
            rw [List.getElem?_eq_getElem (by omega), hcells] at hr
            exact trod_mk htt d e m _ _ hpe hr)
          refine ⟨Val.join 0 false ByteArray.empty 0 F, ?_⟩
          have h1 := hF (Val.join 0 false ByteArray.empty 0 F) fun i _ => rfl
          simp only [mk, ht, hk]
          rw [Nat.zero_mul, List.drop_zero, List.take_of_length_le (by omega)] at h1
          exact h1
        · cases hsz

end
end Go.Se
