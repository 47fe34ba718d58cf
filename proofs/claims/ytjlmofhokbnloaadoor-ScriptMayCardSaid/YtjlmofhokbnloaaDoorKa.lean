import Derived.Test.YtjlmofhokbnloaaDoorSg
import Derived.Test.YtjlmofhokbnloaaDoorSeStr
namespace Go.Proofs.YtjlmofhokbnloaaDoor
open Go.Se
set_option maxRecDepth 100000
theorem cnt_sat (xs : List SV) (σ : List (Option SB)) : Sat Tryd.prog 135 xs σ (one cCntB xs σ) :=
  cntB_sat Tryd.func135 (by kernel_rfl) (by kernel_rfl) (by kernel_rfl) (by kernel_rfl) xs σ
noncomputable def y0 : Know Tryd.prog := (b2).add 135 (one cCntB) cnt_sat
theorem ts_nf (s : ByteArray) (K : KC) : run y0 4 67 [.str s, .str ⟨#[10]⟩] [] K =
  (Br (decide ((↑s.size : Int) ≥ 1)) (Br (decide (0 ≤ IntKind.i64.wrap ((↑s.size : Int) - 1)) && (decide (IntKind.i64.wrap ((↑s.size : Int) - 1) ≤ (↑s.size : Int)) && decide ((↑s.size : Int) ≤ (↑s.size : Int)))) (Br (s.extract (IntKind.i64.wrap ((↑s.size : Int) - (↑(⟨#[10]⟩ : ByteArray).size : Int))).toNat (↑s.size : Int).toNat == (⟨#[10]⟩ : ByteArray)) (Br (true && (decide (0 ≤ IntKind.i64.wrap ((↑s.size : Int) - 1)) && decide (IntKind.i64.wrap ((↑s.size : Int) - 1) ≤ (↑s.size : Int)))) (K (SV.str (s.extract 0 (IntKind.i64.wrap ((↑s.size : Int) - 1)).toNat)) [] []) (False)) (K (SV.str s) [] [])) (False)) (K (SV.str s) [] [])) := by kernel_rfl
def gsR : List (Nat × Keep) := [(0, ⟨[0, 1, 2, 3, 9, 10], [0], [0], 1, []⟩)]
def gsS (s : ByteArray) (n : Int) (N : Nat) (X : Nat → ByteArray) (i : Int) : St := ⟨[(0, .str s), (1, .str ⟨#[10]⟩), (2, .int .i64 0), (3, .int .i64 n), (9, .own 0 0 1 N), (10, .int .i64 i)], [(0, some (.row 9 1 N (strR X)))], 1, [0], 66⟩
noncomputable abbrev gsE : Env := envL gsR (fun _ => 0) y0 4
noncomputable abbrev gsF : Func := Tryd.f105
theorem gs_entry (s : ByteArray) (K : KC) : runL gsR (fun _ => 0) y0 5 105 [.str s, .str ⟨#[10]⟩, .int .i64 0, .int .i64 (-1)] [] K =
  (Br (decide (0 ≤ if IntKind.i64.wrap ((↑s.size : Int) + 1) < IntKind.i64.wrap ((↑(cntB s 10) : Int) + 1) then IntKind.i64.wrap ((↑s.size : Int) + 1) else IntKind.i64.wrap ((↑(cntB s 10) : Int) + 1)) && (decide ((if IntKind.i64.wrap ((↑s.size : Int) + 1) < IntKind.i64.wrap ((↑(cntB s 10) : Int) + 1) then IntKind.i64.wrap ((↑s.size : Int) + 1) else IntKind.i64.wrap ((↑(cntB s 10) : Int) + 1)) ≤ if IntKind.i64.wrap ((↑s.size : Int) + 1) < IntKind.i64.wrap ((↑(cntB s 10) : Int) + 1) then IntKind.i64.wrap ((↑s.size : Int) + 1) else IntKind.i64.wrap ((↑(cntB s 10) : Int) + 1)) && (decide ((if IntKind.i64.wrap ((↑s.size : Int) + 1) < IntKind.i64.wrap ((↑(cntB s 10) : Int) + 1) then IntKind.i64.wrap ((↑s.size : Int) + 1) else IntKind.i64.wrap ((↑(cntB s 10) : Int) + 1)) * 16 ≤ 1099511627776) && decide ((if IntKind.i64.wrap ((↑s.size : Int) + 1) < IntKind.i64.wrap ((↑(cntB s 10) : Int) + 1) then IntKind.i64.wrap ((↑s.size : Int) + 1) else IntKind.i64.wrap ((↑(cntB s 10) : Int) + 1)) < 9223372036854775808)))) (∃ q_, loopE gsE (keepW gsR 0) gsF [1, 1, 1, 1, 1, 1, 1, 1, 0, 0] 0 0 K q_ { tmps := [(0, SV.str s), (1, SV.str (⟨#[10]⟩ : ByteArray)), (2, SV.int .i64 0), (3, SV.int .i64 (IntKind.i64.wrap ((if IntKind.i64.wrap ((↑s.size : Int) + 1) < IntKind.i64.wrap ((↑(cntB s 10) : Int) + 1) then IntKind.i64.wrap ((↑s.size : Int) + 1) else IntKind.i64.wrap ((↑(cntB s 10) : Int) + 1)) - 1))), (9, SV.own 0 0 1 (if IntKind.i64.wrap ((↑s.size : Int) + 1) < IntKind.i64.wrap ((↑(cntB s 10) : Int) + 1) then IntKind.i64.wrap ((↑s.size : Int) + 1) else IntKind.i64.wrap ((↑(cntB s 10) : Int) + 1)).toNat), (10, SV.int .i64 0)], store := [(0, some (SB.row 9 1 (if IntKind.i64.wrap ((↑s.size : Int) + 1) < IntKind.i64.wrap ((↑(cntB s 10) : Int) + 1) then IntKind.i64.wrap ((↑s.size : Int) + 1) else IntKind.i64.wrap ((↑(cntB s 10) : Int) + 1)).toNat fun (x : Nat) => [SV.str (⟨#[]⟩ : ByteArray)]))], nxt := 1, dirty := [0], nt := 66 }) (False)) := by kernel_rfl
theorem gs_round (s : ByteArray) (n : Int) (N : Nat) (X : Nat → ByteArray) (i : Int) (K : Ex → St → Prop) : roundE gsE (keepW gsR 0) gsF [1, 1, 1, 1, 1, 1, 1, 1, 0, 0] 0 K (gsS s n N X i) =
  (Br (decide (i < n)) (Br ((⟨#[10]⟩ : ByteArray) == s) (Br (decide (0 ≤ i) && decide (i < (↑N : Int))) (Br (decide (0 + i.toNat < N)) (Br (true && (decide (1 ≤ (↑s.size : Int)) && decide ((↑s.size : Int) ≤ (↑s.size : Int)))) (K Ex.normal { tmps := [(0, SV.str (s.extract 1 (↑s.size : Int).toNat)), (1, SV.str (⟨#[10]⟩ : ByteArray)), (2, SV.int .i64 0), (3, SV.int .i64 n), (9, SV.own 0 0 1 N), (10, SV.int .i64 (IntKind.i64.wrap (i + 1)))], store := [(0, some (SB.row 9 1 N (rowPut (0 + i.toNat) [SV.str (s.extract 0 0)] (strR X))))], nxt := 1, dirty := [0], nt := 66 }) (False)) (False)) (False)) (Br (decide (idxB s 10 < 0)) (K (Ex.exit 0) { tmps := [(0, SV.str s), (1, SV.str (⟨#[10]⟩ : ByteArray)), (2, SV.int .i64 0), (3, SV.int .i64 n), (9, SV.own 0 0 1 N), (10, SV.int .i64 i)], store := [(0, some (SB.row 9 1 N (strR X)))], nxt := 1, dirty := [0], nt := 66 }) (Br (true && (decide (0 ≤ IntKind.i64.wrap (idxB s 10 + 0)) && decide (IntKind.i64.wrap (idxB s 10 + 0) ≤ (↑s.size : Int)))) (Br (decide (0 ≤ i) && decide (i < (↑N : Int))) (Br (decide (0 + i.toNat < N)) (Br (decide (0 ≤ IntKind.i64.wrap (idxB s 10 + 1)) && (decide (IntKind.i64.wrap (idxB s 10 + 1) ≤ (↑s.size : Int)) && decide ((↑s.size : Int) ≤ (↑s.size : Int)))) (K Ex.normal { tmps := [(0, SV.str (s.extract (IntKind.i64.wrap (idxB s 10 + 1)).toNat (↑s.size : Int).toNat)), (1, SV.str (⟨#[10]⟩ : ByteArray)), (2, SV.int .i64 0), (3, SV.int .i64 n), (9, SV.own 0 0 1 N), (10, SV.int .i64 (IntKind.i64.wrap (i + 1)))], store := [(0, some (SB.row 9 1 N (rowPut (0 + i.toNat) [SV.str (s.extract 0 (IntKind.i64.wrap (idxB s 10 + 0)).toNat)] (strR X))))], nxt := 1, dirty := [0], nt := 66 }) (False)) (False)) (False)) (False)))) (K (Ex.exit 0) { tmps := [(0, SV.str s), (1, SV.str (⟨#[10]⟩ : ByteArray)), (2, SV.int .i64 0), (3, SV.int .i64 n), (9, SV.own 0 0 1 N), (10, SV.int .i64 i)], store := [(0, some (SB.row 9 1 N (strR X)))], nxt := 1, dirty := [0], nt := 66 })) := by kernel_rfl
theorem gs_after (s : ByteArray) (n : Int) (N : Nat) (X : Nat → ByteArray) (i : Int) (K : KC) : afterE gsE (keepW gsR 0) gsF [1, 1, 1, 1, 1, 1, 1, 1, 0, 0] 0 K (.exit 0) (gsS s n N X i) =
  (Br (decide (0 ≤ i) && decide (i < (↑N : Int))) (Br (decide (0 + i.toNat < N)) (Br (true && (decide (0 ≤ IntKind.i64.wrap (i + 1)) && decide (IntKind.i64.wrap (i + 1) ≤ (↑N : Int))) && decide (N < 9223372036854775808)) (Br (decide (0 < IntKind.i64.wrap (i + 1))) (K (SV.own 0 0 1 ((IntKind.i64.wrap (i + 1)).toNat - 0)) [some (SB.row 9 1 N (rowPut (0 + i.toNat) [SV.str s] (strR X)))] []) (K (SV.ro 0 1 fun (x : Nat) => []) [] [])) (False)) (False)) (False)) := by kernel_rfl
theorem runL_rows {α : Type} {R : List (Nat × Keep)} {u : Nat → Nat} {B : Know Tryd.prog} {n : Nat} {k : FuncId} {xs : List SV} {e st : Nat} {f : α → List SV} {d0 : α} {L : List α} (hf : ∀ x, (f x).length = st)
    (h : okL xs → ∀ K : KC, rowsEnd e st f L K → runL R u B n k xs [] K) : CallOK Tryd.prog k xs [] (.ro L.length st (listG f d0 L)) [] [] :=
  callOK_rows hf (sat_of_ok (fun _ hK => rowsEnd_some d0 hK) fun h1 _ K hK => calls_sat (env := tab.env B u (fun _ => false)) ⟨tab.htt, B.ok⟩ tab.mixed (fun n => keepW_weaker n R) tab.hft n _ _ _ K (h h1 K hK))
theorem gs_law (l : List Int) (hb : inByte l) (hl : l.length ≤ 1048576) (K : KC) (hK : rowsEnd 9 1 strC (splR 10 [] l) K) :
    runL gsR (fun _ => 0) y0 5 105 [.str (bytesOf l), .str ⟨#[10]⟩, .int .i64 0, .int .i64 (-1)] [] K := by
  have hN := splR_len 10 l []
  generalize hq : splR 10 [] l = q at hN hK
  have hcnt : l.countP (· == 10) ≤ l.length := List.countP_le_length
  rw [gs_entry, bytes_size, cntB_bytes hb (by decide) (by decide)]
  have e : (if IntKind.i64.wrap ((l.length : Int) + 1) < IntKind.i64.wrap (((l.countP (· == 10) : Nat) : Int) + 1) then IntKind.i64.wrap ((l.length : Int) + 1) else IntKind.i64.wrap (((l.countP (· == 10) : Nat) : Int) + 1)) = ((q.length : Nat) : Int) := by
    rw [wi64, wi64, if_neg (by omega)]; omega
  rw [e]
  refine Br.of (fun _ => ?_) fun c => absurd c (by simp only [Bool.and_eq_false_iff, decide_eq_false_iff_not]; omega)
  rw [Int.toNat_natCast, show IntKind.i64.wrap ((q.length : Int) - 1) = ((q.length - 1 : Nat) : Int) by rw [wi64]; omega]
  refine ⟨q.length + 1, ?_⟩
  refine loop_m (fun a : List Int × (Nat → ByteArray) × Nat => gsS (bytesOf a.1) ((q.length - 1 : Nat) : Int) q.length a.2.1 a.2.2) (fun a => q.length - a.2.2)
    (fun a => inByte a.1 ∧ a.1.length ≤ l.length ∧ splR 10 [] a.1 = q.drop a.2.2 ∧ ∀ j, j < a.2.2 → a.2.1 j = bytesOf (q.getD j [])) ?_ (q.length + 1) (l, (fun _ => ⟨#[]⟩), 0) ⟨hb, Nat.le_refl _, by rw [hq]; rfl, fun j hj => absurd hj (Nat.not_lt_zero j)⟩ (by simp)
  rintro ⟨m, X, i⟩ ⟨h1, h2, h3, h4⟩ X' hX
  simp only at h1 h2 h3 h4 hX ⊢
  rw [gs_round, bytes_size, idx_has h1 (by decide) (by decide)]
  simp only [rowPut_strR, Nat.zero_add, Int.toNat_natCast]
  rw [splR_cut] at h3
  refine Br.of (fun c => ?_) fun c => ?_
  · have c := of_decide_eq_true c
    cases hh : hasC 10 m with
    | false =>
      rw [hh] at h3
      have := (drop_cons_iff h3.symm).2.2
      have := congrArg List.length this
      simp at this; omega
    | true =>
      rw [hh] at h3
      simp only [cond_true, List.nil_append] at h3 ⊢
      obtain ⟨d1, d2, d3⟩ := drop_cons_iff h3.symm
      have hlen := hasC_len hh
      have next : X' (gsS (bytesOf (cutT 10 m)) ((q.length - 1 : Nat) : Int) q.length (updX i (bytesOf (cutH 10 m)) X) ((i + 1 : Nat) : Int)) := by
        refine hX (cutT 10 m, updX i (bytesOf (cutH 10 m)) X, i + 1) ⟨cutT_inByte h1, by show (cutT 10 m).length ≤ _; omega, d3.symm, fun j hj => ?_⟩ (by show q.length - (i + 1) < q.length - i; omega)
        have hj : j < i + 1 := hj
        show updX i (bytesOf (cutH 10 m)) X j = _
        unfold updX
        by_cases hji : j = i
        · rw [decide_eq_true hji, hji, d2]; rfl
        · rw [decide_eq_false hji]; exact h4 j (by omega)
      rw [wi64_succ (n := q.length) d1 (by omega)]
      refine Br.of (fun e => ?_) fun e => Br.of (fun e2 => absurd e2 (by simp)) fun _ => ?_
      · have hm : m = [10] := by
          rw [ba_beq, beq_iff_eq] at e
          have := congrArg listOf (ByteArray.ext e)
          rw [list_bytes h1] at this
          rw [← this]; rfl
        subst hm
        refine Br.of (fun _ => Br.of (fun _ => Br.of (fun _ => next) fun e3 => absurd e3 (by decide)) fun e3 => absurd e3 (by simp; omega)) fun e3 => absurd e3 (by simp; omega)
      · have w1 : IntKind.i64.wrap (((cutH 10 m).length : Int) + 0) = (((cutH 10 m).length : Nat) : Int) := by rw [wi64]; omega
        have w2 : IntKind.i64.wrap (((cutH 10 m).length : Int) + 1) = (((cutH 10 m).length + 1 : Nat) : Int) := by rw [wi64]; omega
        simp only [w1, w2, Int.toNat_natCast, cut_bytes_H, cut_bytes_T hh]
        refine Br.of (fun _ => Br.of (fun _ => Br.of (fun _ => Br.of (fun _ => next) fun e3 => absurd e3 ?_) fun e3 => absurd e3 ?_) fun e3 => absurd e3 ?_) fun e3 => absurd e3 ?_ <;> simp <;> omega
  · have c := of_decide_eq_false c
    show afterE gsE (keepW gsR 0) gsF [1, 1, 1, 1, 1, 1, 1, 1, 0, 0] 0 K (.exit 0) (gsS (bytesOf m) ((q.length - 1 : Nat) : Int) q.length X i)
    rw [gs_after]
    simp only [rowPut_strR, Nat.zero_add, Int.toNat_natCast]
    have hlast : q.drop i = [m] := by
      cases hh : hasC 10 m with
      | true =>
        rw [hh] at h3
        obtain ⟨d1, _, d3⟩ := drop_cons_iff h3.symm
        have := congrArg List.length d3
        rw [List.length_drop, splR_len] at this
        omega
      | false => rw [hh] at h3; exact h3.symm
    obtain ⟨d1, d2, d3⟩ := drop_cons_iff hlast
    have hi : i + 1 = q.length := by
      have := congrArg List.length d3
      rw [List.length_drop] at this
      simp at this; omega
    rw [wi64_succ (n := q.length) d1 (by omega), hi]
    simp only [Int.toNat_natCast, Nat.sub_zero]
    refine Br.of (fun _ => Br.of (fun _ => Br.of (fun _ => Br.of (fun _ => ?_) fun e3 => absurd e3 ?_) fun e3 => absurd e3 ?_) fun e3 => absurd e3 ?_) fun e3 => absurd e3 ?_
    · refine hK.2 _ (by intro h0; rw [h0] at d1; simp at d1) fun j hj => ?_
      unfold strR updX strC
      by_cases hji : j = i
      · subst hji
        have := d2 []
        rw [List.getD_eq_getElem?_getD, List.getElem?_eq_getElem hj] at this
        rw [decide_eq_true rfl, show q[j] = m from this]; rfl
      · rw [decide_eq_false hji]
        have := h4 j (by omega)
        rw [List.getD_eq_getElem?_getD, List.getElem?_eq_getElem hj] at this
        rw [show q[j] = q[j] from rfl]
        simp only [cond_false]
        rw [this]; rfl
    all_goals simp
    all_goals first
      | omega
      | (intro h0; rw [h0] at d1; simp at d1)
end Go.Proofs.YtjlmofhokbnloaaDoor

namespace Go.Proofs.YtjlmofhokbnloaaDoor
open Go.Se
set_option maxRecDepth 100000
theorem trim_ok (s t : ByteArray) (h : (t == ⟨#[10]⟩) = true) : CallOK Tryd.prog 67 [.str s, .str t] [] (.str (bytesOf (chopL (listOf s)))) [] [] := by
  rw [ba_beq, beq_iff_eq] at h
  obtain rfl : t = ⟨#[10]⟩ := ByteArray.ext h
  refine run_ok y0 4 fun ⟨hs, _⟩ _ K hK => ?_
  have hs : s.size < 9223372036854775808 := hs
  rw [ts_nf]
  exact chop_law hs hK
theorem gsplit_ok (s t : ByteArray) (h : (t == ⟨#[10]⟩ && decide (s.size ≤ 1048576)) = true) : CallOK Tryd.prog 105 [.str s, .str t, .int .i64 0, .int .i64 (-1)] [] (.ro (splR 10 [] (listOf s)).length 1 (strsG (splR 10 [] (listOf s)))) [] [] := by
  simp only [Bool.and_eq_true, decide_eq_true_eq] at h
  rw [ba_beq, beq_iff_eq] at h
  obtain rfl : t = ⟨#[10]⟩ := ByteArray.ext h.1
  refine runL_rows (R := gsR) (u := fun _ => 0) (B := y0) (n := 5) (e := 9) (fun _ => rfl) fun _ K hK => ?_
  have := gs_law (listOf s) (list_inByte s) (by rw [list_length]; exact h.2) K hK
  rw [bytes_list] at this
  exact this
def cTrim : List SV → List (Option SB) → Option (Bool × SV × List (Option SB) × List Nat)
  | [.str s, .str t], [] => some (t == ⟨#[10]⟩, .str (bytesOf (chopL (listOf s))), [], [])
  | _, _ => none
def cGsplit : List SV → List (Option SB) → Option (Bool × SV × List (Option SB) × List Nat)
  | [.str s, .str t, .int .i64 0, .int .i64 (-1)], [] => some (t == ⟨#[10]⟩ && decide (s.size ≤ 1048576), .ro (splR 10 [] (listOf s)).length 1 (strsG (splR 10 [] (listOf s))), [], [])
  | _, _ => none
noncomputable def y1 : Know Tryd.prog := ((y0).add 67 (oneIf cTrim) (oneIf_sat fun xs σ v σ' d h => by
    unfold cTrim at h; split at h
    · simp only [Option.some.injEq, Prod.mk.injEq] at h
      obtain ⟨h1, rfl, rfl, rfl⟩ := h
      first | exact trim_ok h1 | exact trim_ok _ h1 | exact trim_ok _ _ h1 | exact trim_ok _ _ _ h1 | exact trim_ok _ _ _ _ h1 | exact trim_ok _ _ _ _ _ h1 | exact trim_ok _ _ _ _ _ _ h1 | exact trim_ok _ _ _ _ _ _ _ h1 | exact trim_ok _ _ _ _ _ _ _ _ h1 | exact trim_ok _ _ _ _ _ _ _ _ _ h1 | exact trim_ok _ _ _ _ _ _ _ _ _ _ h1 | exact trim_ok _ _ _ _ _ _ _ _ _ _ _ h1 | exact trim_ok _ _ _ _ _ _ _ _ _ _ _ _ h1 | exact trim_ok (of_decide_eq_true h1) | exact trim_ok _ (of_decide_eq_true h1) | exact trim_ok _ _ (of_decide_eq_true h1) | exact trim_ok _ _ _ (of_decide_eq_true h1) | exact trim_ok _ _ _ _ (of_decide_eq_true h1) | exact trim_ok _ _ _ _ _ (of_decide_eq_true h1) | exact trim_ok _ _ _ _ _ _ (of_decide_eq_true h1) | exact trim_ok _ _ _ _ _ _ _ (of_decide_eq_true h1) | exact trim_ok _ _ _ _ _ _ _ _ (of_decide_eq_true h1) | exact trim_ok _ _ _ _ _ _ _ _ _ (of_decide_eq_true h1) | exact trim_ok _ _ _ _ _ _ _ _ _ _ (of_decide_eq_true h1) | exact trim_ok _ _ _ _ _ _ _ _ _ _ _ (of_decide_eq_true h1) | exact trim_ok _ _ _ _ _ _ _ _ _ _ _ _ (of_decide_eq_true h1)
    · cases h)).add 105 (oneIf cGsplit) (oneIf_sat fun xs σ v σ' d h => by
    unfold cGsplit at h; split at h
    · simp only [Option.some.injEq, Prod.mk.injEq] at h
      obtain ⟨h1, rfl, rfl, rfl⟩ := h
      first | exact gsplit_ok h1 | exact gsplit_ok _ h1 | exact gsplit_ok _ _ h1 | exact gsplit_ok _ _ _ h1 | exact gsplit_ok _ _ _ _ h1 | exact gsplit_ok _ _ _ _ _ h1 | exact gsplit_ok _ _ _ _ _ _ h1 | exact gsplit_ok _ _ _ _ _ _ _ h1 | exact gsplit_ok _ _ _ _ _ _ _ _ h1 | exact gsplit_ok _ _ _ _ _ _ _ _ _ h1 | exact gsplit_ok _ _ _ _ _ _ _ _ _ _ h1 | exact gsplit_ok _ _ _ _ _ _ _ _ _ _ _ h1 | exact gsplit_ok _ _ _ _ _ _ _ _ _ _ _ _ h1 | exact gsplit_ok (of_decide_eq_true h1) | exact gsplit_ok _ (of_decide_eq_true h1) | exact gsplit_ok _ _ (of_decide_eq_true h1) | exact gsplit_ok _ _ _ (of_decide_eq_true h1) | exact gsplit_ok _ _ _ _ (of_decide_eq_true h1) | exact gsplit_ok _ _ _ _ _ (of_decide_eq_true h1) | exact gsplit_ok _ _ _ _ _ _ (of_decide_eq_true h1) | exact gsplit_ok _ _ _ _ _ _ _ (of_decide_eq_true h1) | exact gsplit_ok _ _ _ _ _ _ _ _ (of_decide_eq_true h1) | exact gsplit_ok _ _ _ _ _ _ _ _ _ (of_decide_eq_true h1) | exact gsplit_ok _ _ _ _ _ _ _ _ _ _ (of_decide_eq_true h1) | exact gsplit_ok _ _ _ _ _ _ _ _ _ _ _ (of_decide_eq_true h1) | exact gsplit_ok _ _ _ _ _ _ _ _ _ _ _ _ (of_decide_eq_true h1)
    · cases h)
theorem lines_nf (s : ByteArray) (K : KC) : run y1 3 25 [.str s] [] K =
  (Br (s == (⟨#[]⟩ : ByteArray)) (K SV.nils [] []) (Br (true && decide ((bytesOf (chopL (listOf s))).size ≤ 1048576)) (K (SV.ro (splR 10 [] (listOf (bytesOf (chopL (listOf s))))).length 1 (strsG (splR 10 [] (listOf (bytesOf (chopL (listOf s))))))) [] []) (False))) := by kernel_rfl
def rlR : List (Nat × Keep) := [(0, ⟨[0, 3, 4, 5], [1], [1, 2, 3, 4, 5], 2, [(3, 1)]⟩)]
def rlS (s : ByteArray) (o : SV) (b : Option SB) (j i : Int) : St := ⟨[(0, .str s), (3, o), (4, .int .i64 j), (5, .int .i64 i)], [(1, b)], 2, [1, 2, 3, 4, 5], 42⟩
noncomputable abbrev rlE : Env := envL rlR (fun _ => 0) y1 2
noncomputable abbrev rlF : Func := Tryd.f26
abbrev rlP : List Nat := [1, 1, 1, 0, 1, 0]
theorem rl_entry (s : ByteArray) (K : KC) : runL rlR (fun _ => 0) y1 3 26 [.str s] [] K =
  (∃ q_, loopE rlE (keepW rlR 0) rlF rlP 0 0 K q_ { tmps := [(0, SV.str s), (3, SV.nils), (4, SV.int .i64 0), (5, SV.int .i64 0)], store := [(1, none)], nxt := 2, dirty := [1, 2, 3, 4, 5], nt := 42 }) := by kernel_rfl
theorem rl_round0 (s : ByteArray) (j i : Nat) (K : Ex → St → Prop) : roundE rlE (keepW rlR 0) rlF rlP 0 K (rlS s .nils none j i) =
  (Br (decide ((↑i : Int) ≤ (↑s.size : Int))) (Br ((↑i : Int) == (↑s.size : Int)) (Br ((↑j : Int) == (↑s.size : Int)) (K (Ex.exit 0) { tmps := [(0, SV.str s), (3, SV.nils), (4, SV.int .i64 (↑j : Int)), (5, SV.int .i64 (↑i : Int))], store := [(1, none)], nxt := 2, dirty := [1, 2, 3, 4, 5], nt := 42 }) (Br ((↑i : Int) == (↑s.size : Int)) (Br (decide (0 ≤ (↑j : Int)) && (decide ((↑j : Int) ≤ (↑i : Int)) && decide ((↑i : Int) ≤ (↑s.size : Int)))) (K Ex.normal { tmps := [(0, SV.str s), (3, SV.own 1 0 1 1), (4, SV.int .i64 (IntKind.i64.wrap ((↑i : Int) + 1))), (5, SV.int .i64 (IntKind.i64.wrap ((↑i : Int) + 1)))], store := [(1, some (SB.row 9 1 1 fun (i_1 : Nat) => cut [SV.str (s.extract (↑j : Int).toNat (↑i : Int).toNat)] (i_1 * 1) 1))], nxt := 2, dirty := [1, 2, 3, 4, 5], nt := 42 }) (False)) (Br (decide (0 ≤ (↑i : Int)) && decide ((↑i : Int) < (↑s.size : Int))) (Br ((↑(s.data.getD (↑i : Int).toNat 0).toNat : Int) == 10) (Br (decide (0 ≤ (↑j : Int)) && (decide ((↑j : Int) ≤ (↑i : Int)) && decide ((↑i : Int) ≤ (↑s.size : Int)))) (K Ex.normal { tmps := [(0, SV.str s), (3, SV.own 1 0 1 1), (4, SV.int .i64 (IntKind.i64.wrap ((↑i : Int) + 1))), (5, SV.int .i64 (IntKind.i64.wrap ((↑i : Int) + 1)))], store := [(1, some (SB.row 9 1 1 fun (i_1 : Nat) => cut [SV.str (s.extract (↑j : Int).toNat (↑i : Int).toNat)] (i_1 * 1) 1))], nxt := 2, dirty := [1, 2, 3, 4, 5], nt := 42 }) (False)) (K Ex.normal { tmps := [(0, SV.str s), (3, SV.nils), (4, SV.int .i64 (↑j : Int)), (5, SV.int .i64 (IntKind.i64.wrap ((↑i : Int) + 1)))], store := [(1, none)], nxt := 2, dirty := [1, 2, 3, 4, 5], nt := 42 })) (False)))) (Br ((↑i : Int) == (↑s.size : Int)) (Br (decide (0 ≤ (↑j : Int)) && (decide ((↑j : Int) ≤ (↑i : Int)) && decide ((↑i : Int) ≤ (↑s.size : Int)))) (K Ex.normal { tmps := [(0, SV.str s), (3, SV.own 1 0 1 1), (4, SV.int .i64 (IntKind.i64.wrap ((↑i : Int) + 1))), (5, SV.int .i64 (IntKind.i64.wrap ((↑i : Int) + 1)))], store := [(1, some (SB.row 9 1 1 fun (i_1 : Nat) => cut [SV.str (s.extract (↑j : Int).toNat (↑i : Int).toNat)] (i_1 * 1) 1))], nxt := 2, dirty := [1, 2, 3, 4, 5], nt := 42 }) (False)) (Br (decide (0 ≤ (↑i : Int)) && decide ((↑i : Int) < (↑s.size : Int))) (Br ((↑(s.data.getD (↑i : Int).toNat 0).toNat : Int) == 10) (Br (decide (0 ≤ (↑j : Int)) && (decide ((↑j : Int) ≤ (↑i : Int)) && decide ((↑i : Int) ≤ (↑s.size : Int)))) (K Ex.normal { tmps := [(0, SV.str s), (3, SV.own 1 0 1 1), (4, SV.int .i64 (IntKind.i64.wrap ((↑i : Int) + 1))), (5, SV.int .i64 (IntKind.i64.wrap ((↑i : Int) + 1)))], store := [(1, some (SB.row 9 1 1 fun (i_1 : Nat) => cut [SV.str (s.extract (↑j : Int).toNat (↑i : Int).toNat)] (i_1 * 1) 1))], nxt := 2, dirty := [1, 2, 3, 4, 5], nt := 42 }) (False)) (K Ex.normal { tmps := [(0, SV.str s), (3, SV.nils), (4, SV.int .i64 (↑j : Int)), (5, SV.int .i64 (IntKind.i64.wrap ((↑i : Int) + 1)))], store := [(1, none)], nxt := 2, dirty := [1, 2, 3, 4, 5], nt := 42 })) (False)))) (K (Ex.exit 0) { tmps := [(0, SV.str s), (3, SV.nils), (4, SV.int .i64 (↑j : Int)), (5, SV.int .i64 (↑i : Int))], store := [(1, none)], nxt := 2, dirty := [1, 2, 3, 4, 5], nt := 42 })) := by kernel_rfl
theorem rl_round1 (s : ByteArray) (m : Nat) (g : Nat → List SV) (j i : Nat) (K : Ex → St → Prop) : roundE rlE (keepW rlR 0) rlF rlP 0 K (rlS s (.own 1 0 1 m) (some (.row 9 1 m g)) j i) =
  (Br (decide ((↑i : Int) ≤ (↑s.size : Int))) (Br ((↑i : Int) == (↑s.size : Int)) (Br ((↑j : Int) == (↑s.size : Int)) (K (Ex.exit 0) { tmps := [(0, SV.str s), (3, SV.own 1 0 1 m), (4, SV.int .i64 (↑j : Int)), (5, SV.int .i64 (↑i : Int))], store := [(1, some (SB.row 9 1 m g))], nxt := 2, dirty := [1, 2, 3, 4, 5], nt := 42 }) (Br ((↑i : Int) == (↑s.size : Int)) (Br (decide (0 ≤ (↑j : Int)) && (decide ((↑j : Int) ≤ (↑i : Int)) && decide ((↑i : Int) ≤ (↑s.size : Int)))) (Br (decide ((m + 1) * 16 ≤ 1099511627776) && decide (m + 1 < 9223372036854775808) && decide (m = m)) (K Ex.normal { tmps := [(0, SV.str s), (3, SV.own 1 0 1 (m + 1)), (4, SV.int .i64 (IntKind.i64.wrap ((↑i : Int) + 1))), (5, SV.int .i64 (IntKind.i64.wrap ((↑i : Int) + 1)))], store := [(1, some (SB.row 9 1 (m + 1) (rowPut m [SV.str (s.extract (↑j : Int).toNat (↑i : Int).toNat)] g)))], nxt := 2, dirty := [1, 2, 3, 4, 5], nt := 42 }) (False)) (False)) (Br (decide (0 ≤ (↑i : Int)) && decide ((↑i : Int) < (↑s.size : Int))) (Br ((↑(s.data.getD (↑i : Int).toNat 0).toNat : Int) == 10) (Br (decide (0 ≤ (↑j : Int)) && (decide ((↑j : Int) ≤ (↑i : Int)) && decide ((↑i : Int) ≤ (↑s.size : Int)))) (Br (decide ((m + 1) * 16 ≤ 1099511627776) && decide (m + 1 < 9223372036854775808) && decide (m = m)) (K Ex.normal { tmps := [(0, SV.str s), (3, SV.own 1 0 1 (m + 1)), (4, SV.int .i64 (IntKind.i64.wrap ((↑i : Int) + 1))), (5, SV.int .i64 (IntKind.i64.wrap ((↑i : Int) + 1)))], store := [(1, some (SB.row 9 1 (m + 1) (rowPut m [SV.str (s.extract (↑j : Int).toNat (↑i : Int).toNat)] g)))], nxt := 2, dirty := [1, 2, 3, 4, 5], nt := 42 }) (False)) (False)) (K Ex.normal { tmps := [(0, SV.str s), (3, SV.own 1 0 1 m), (4, SV.int .i64 (↑j : Int)), (5, SV.int .i64 (IntKind.i64.wrap ((↑i : Int) + 1)))], store := [(1, some (SB.row 9 1 m g))], nxt := 2, dirty := [1, 2, 3, 4, 5], nt := 42 })) (False)))) (Br ((↑i : Int) == (↑s.size : Int)) (Br (decide (0 ≤ (↑j : Int)) && (decide ((↑j : Int) ≤ (↑i : Int)) && decide ((↑i : Int) ≤ (↑s.size : Int)))) (Br (decide ((m + 1) * 16 ≤ 1099511627776) && decide (m + 1 < 9223372036854775808) && decide (m = m)) (K Ex.normal { tmps := [(0, SV.str s), (3, SV.own 1 0 1 (m + 1)), (4, SV.int .i64 (IntKind.i64.wrap ((↑i : Int) + 1))), (5, SV.int .i64 (IntKind.i64.wrap ((↑i : Int) + 1)))], store := [(1, some (SB.row 9 1 (m + 1) (rowPut m [SV.str (s.extract (↑j : Int).toNat (↑i : Int).toNat)] g)))], nxt := 2, dirty := [1, 2, 3, 4, 5], nt := 42 }) (False)) (False)) (Br (decide (0 ≤ (↑i : Int)) && decide ((↑i : Int) < (↑s.size : Int))) (Br ((↑(s.data.getD (↑i : Int).toNat 0).toNat : Int) == 10) (Br (decide (0 ≤ (↑j : Int)) && (decide ((↑j : Int) ≤ (↑i : Int)) && decide ((↑i : Int) ≤ (↑s.size : Int)))) (Br (decide ((m + 1) * 16 ≤ 1099511627776) && decide (m + 1 < 9223372036854775808) && decide (m = m)) (K Ex.normal { tmps := [(0, SV.str s), (3, SV.own 1 0 1 (m + 1)), (4, SV.int .i64 (IntKind.i64.wrap ((↑i : Int) + 1))), (5, SV.int .i64 (IntKind.i64.wrap ((↑i : Int) + 1)))], store := [(1, some (SB.row 9 1 (m + 1) (rowPut m [SV.str (s.extract (↑j : Int).toNat (↑i : Int).toNat)] g)))], nxt := 2, dirty := [1, 2, 3, 4, 5], nt := 42 }) (False)) (False)) (K Ex.normal { tmps := [(0, SV.str s), (3, SV.own 1 0 1 m), (4, SV.int .i64 (↑j : Int)), (5, SV.int .i64 (IntKind.i64.wrap ((↑i : Int) + 1)))], store := [(1, some (SB.row 9 1 m g))], nxt := 2, dirty := [1, 2, 3, 4, 5], nt := 42 })) (False)))) (K (Ex.exit 0) { tmps := [(0, SV.str s), (3, SV.own 1 0 1 m), (4, SV.int .i64 (↑j : Int)), (5, SV.int .i64 (↑i : Int))], store := [(1, some (SB.row 9 1 m g))], nxt := 2, dirty := [1, 2, 3, 4, 5], nt := 42 })) := by kernel_rfl
theorem rl_after0 (s : ByteArray) (j i : Nat) (K : KC) : afterE rlE (keepW rlR 0) rlF rlP 0 K (.exit 0) (rlS s .nils none j i) =
  (K SV.nils [] []) := by kernel_rfl
theorem rl_after1 (s : ByteArray) (m : Nat) (g : Nat → List SV) (j i : Nat) (K : KC) : afterE rlE (keepW rlR 0) rlF rlP 0 K (.exit 0) (rlS s (.own 1 0 1 m) (some (.row 9 1 m g)) j i) =
  (K (SV.own 0 0 1 m) [some (SB.row 9 1 m g)] []) := by kernel_rfl
def rpS (s : ByteArray) (o : SV) (b : Option SB) (z : ByteArray) (i : Int) : St := ⟨[(0, .str s), (3, o), (4, .str z), (5, .int .i64 i)], [(1, b)], 2, [1, 2, 3, 4, 5], 48⟩
noncomputable abbrev rpF : Func := Tryd.f24
theorem rp_entry (s : ByteArray) (K : KC) : runL rlR (fun _ => 0) y1 3 24 [.str s] [] K =
  (∃ q_, loopE rlE (keepW rlR 0) rpF rlP 0 0 K q_ { tmps := [(0, SV.str s), (3, SV.nils), (4, SV.str (⟨#[]⟩ : ByteArray)), (5, SV.int .i64 0)], store := [(1, none)], nxt := 2, dirty := [1, 2, 3, 4, 5], nt := 48 }) := by kernel_rfl
theorem rp_round0 (s : ByteArray) (z : ByteArray) (i : Nat) (K : Ex → St → Prop) : roundE rlE (keepW rlR 0) rpF rlP 0 K (rpS s .nils none z i) =
  (Br (decide ((↑i : Int) < (↑s.size : Int))) (Br (decide (0 ≤ (↑i : Int)) && decide ((↑i : Int) < (↑s.size : Int))) (Br ((↑(s.data.getD (↑i : Int).toNat 0).toNat : Int) != 35) (Br (decide (0 ≤ (↑i : Int)) && decide ((↑i : Int) < (↑s.size : Int))) (Br ((↑(s.data.getD (↑i : Int).toNat 0).toNat : Int) == 32) (Br (!z == (⟨#[]⟩ : ByteArray)) (K Ex.normal { tmps := [(0, SV.str s), (3, SV.own 1 0 1 1), (4, SV.str (⟨#[]⟩ : ByteArray)), (5, SV.int .i64 (IntKind.i64.wrap ((↑i : Int) + 1)))], store := [(1, some (SB.row 9 1 1 fun (i : Nat) => cut [SV.str z] (i * 1) 1))], nxt := 2, dirty := [1, 2, 3, 4, 5], nt := 48 }) (K Ex.normal { tmps := [(0, SV.str s), (3, SV.nils), (4, SV.str (⟨#[]⟩ : ByteArray)), (5, SV.int .i64 (IntKind.i64.wrap ((↑i : Int) + 1)))], store := [(1, none)], nxt := 2, dirty := [1, 2, 3, 4, 5], nt := 48 })) (Br (decide (0 ≤ (↑i : Int)) && decide ((↑i : Int) < (↑s.size : Int))) (Br ((↑(s.data.getD (↑i : Int).toNat 0).toNat : Int) == 9) (Br (!z == (⟨#[]⟩ : ByteArray)) (K Ex.normal { tmps := [(0, SV.str s), (3, SV.own 1 0 1 1), (4, SV.str (⟨#[]⟩ : ByteArray)), (5, SV.int .i64 (IntKind.i64.wrap ((↑i : Int) + 1)))], store := [(1, some (SB.row 9 1 1 fun (i : Nat) => cut [SV.str z] (i * 1) 1))], nxt := 2, dirty := [1, 2, 3, 4, 5], nt := 48 }) (K Ex.normal { tmps := [(0, SV.str s), (3, SV.nils), (4, SV.str (⟨#[]⟩ : ByteArray)), (5, SV.int .i64 (IntKind.i64.wrap ((↑i : Int) + 1)))], store := [(1, none)], nxt := 2, dirty := [1, 2, 3, 4, 5], nt := 48 })) (Br (decide (0 ≤ (↑i : Int)) && (decide ((↑i : Int) ≤ IntKind.i64.wrap ((↑i : Int) + 1)) && decide (IntKind.i64.wrap ((↑i : Int) + 1) ≤ (↑s.size : Int)))) (Br (decide (z.size + (s.extract (↑i : Int).toNat (IntKind.i64.wrap ((↑i : Int) + 1)).toNat).size < 9223372036854775808)) (K Ex.normal { tmps := [(0, SV.str s), (3, SV.nils), (4, SV.str (z ++ s.extract (↑i : Int).toNat (IntKind.i64.wrap ((↑i : Int) + 1)).toNat)), (5, SV.int .i64 (IntKind.i64.wrap ((↑i : Int) + 1)))], store := [(1, none)], nxt := 2, dirty := [1, 2, 3, 4, 5], nt := 48 }) (False)) (False))) (False))) (False)) (K (Ex.exit 0) { tmps := [(0, SV.str s), (3, SV.nils), (4, SV.str z), (5, SV.int .i64 (↑i : Int))], store := [(1, none)], nxt := 2, dirty := [1, 2, 3, 4, 5], nt := 48 })) (False)) (K (Ex.exit 0) { tmps := [(0, SV.str s), (3, SV.nils), (4, SV.str z), (5, SV.int .i64 (↑i : Int))], store := [(1, none)], nxt := 2, dirty := [1, 2, 3, 4, 5], nt := 48 })) := by kernel_rfl
theorem rp_round1 (s : ByteArray) (m : Nat) (g : Nat → List SV) (z : ByteArray) (i : Nat) (K : Ex → St → Prop) : roundE rlE (keepW rlR 0) rpF rlP 0 K (rpS s (.own 1 0 1 m) (some (.row 9 1 m g)) z i) =
  (Br (decide ((↑i : Int) < (↑s.size : Int))) (Br (decide (0 ≤ (↑i : Int)) && decide ((↑i : Int) < (↑s.size : Int))) (Br ((↑(s.data.getD (↑i : Int).toNat 0).toNat : Int) != 35) (Br (decide (0 ≤ (↑i : Int)) && decide ((↑i : Int) < (↑s.size : Int))) (Br ((↑(s.data.getD (↑i : Int).toNat 0).toNat : Int) == 32) (Br (!z == (⟨#[]⟩ : ByteArray)) (Br (decide ((m + 1) * 16 ≤ 1099511627776) && decide (m + 1 < 9223372036854775808) && decide (m = m)) (K Ex.normal { tmps := [(0, SV.str s), (3, SV.own 1 0 1 (m + 1)), (4, SV.str (⟨#[]⟩ : ByteArray)), (5, SV.int .i64 (IntKind.i64.wrap ((↑i : Int) + 1)))], store := [(1, some (SB.row 9 1 (m + 1) (rowPut m [SV.str z] g)))], nxt := 2, dirty := [1, 2, 3, 4, 5], nt := 48 }) (False)) (K Ex.normal { tmps := [(0, SV.str s), (3, SV.own 1 0 1 m), (4, SV.str (⟨#[]⟩ : ByteArray)), (5, SV.int .i64 (IntKind.i64.wrap ((↑i : Int) + 1)))], store := [(1, some (SB.row 9 1 m g))], nxt := 2, dirty := [1, 2, 3, 4, 5], nt := 48 })) (Br (decide (0 ≤ (↑i : Int)) && decide ((↑i : Int) < (↑s.size : Int))) (Br ((↑(s.data.getD (↑i : Int).toNat 0).toNat : Int) == 9) (Br (!z == (⟨#[]⟩ : ByteArray)) (Br (decide ((m + 1) * 16 ≤ 1099511627776) && decide (m + 1 < 9223372036854775808) && decide (m = m)) (K Ex.normal { tmps := [(0, SV.str s), (3, SV.own 1 0 1 (m + 1)), (4, SV.str (⟨#[]⟩ : ByteArray)), (5, SV.int .i64 (IntKind.i64.wrap ((↑i : Int) + 1)))], store := [(1, some (SB.row 9 1 (m + 1) (rowPut m [SV.str z] g)))], nxt := 2, dirty := [1, 2, 3, 4, 5], nt := 48 }) (False)) (K Ex.normal { tmps := [(0, SV.str s), (3, SV.own 1 0 1 m), (4, SV.str (⟨#[]⟩ : ByteArray)), (5, SV.int .i64 (IntKind.i64.wrap ((↑i : Int) + 1)))], store := [(1, some (SB.row 9 1 m g))], nxt := 2, dirty := [1, 2, 3, 4, 5], nt := 48 })) (Br (decide (0 ≤ (↑i : Int)) && (decide ((↑i : Int) ≤ IntKind.i64.wrap ((↑i : Int) + 1)) && decide (IntKind.i64.wrap ((↑i : Int) + 1) ≤ (↑s.size : Int)))) (Br (decide (z.size + (s.extract (↑i : Int).toNat (IntKind.i64.wrap ((↑i : Int) + 1)).toNat).size < 9223372036854775808)) (K Ex.normal { tmps := [(0, SV.str s), (3, SV.own 1 0 1 m), (4, SV.str (z ++ s.extract (↑i : Int).toNat (IntKind.i64.wrap ((↑i : Int) + 1)).toNat)), (5, SV.int .i64 (IntKind.i64.wrap ((↑i : Int) + 1)))], store := [(1, some (SB.row 9 1 m g))], nxt := 2, dirty := [1, 2, 3, 4, 5], nt := 48 }) (False)) (False))) (False))) (False)) (K (Ex.exit 0) { tmps := [(0, SV.str s), (3, SV.own 1 0 1 m), (4, SV.str z), (5, SV.int .i64 (↑i : Int))], store := [(1, some (SB.row 9 1 m g))], nxt := 2, dirty := [1, 2, 3, 4, 5], nt := 48 })) (False)) (K (Ex.exit 0) { tmps := [(0, SV.str s), (3, SV.own 1 0 1 m), (4, SV.str z), (5, SV.int .i64 (↑i : Int))], store := [(1, some (SB.row 9 1 m g))], nxt := 2, dirty := [1, 2, 3, 4, 5], nt := 48 })) := by kernel_rfl
theorem rp_after0 (s : ByteArray) (z : ByteArray) (i : Nat) (K : KC) : afterE rlE (keepW rlR 0) rpF rlP 0 K (.exit 0) (rpS s .nils none z i) =
  (Br (!z == (⟨#[]⟩ : ByteArray)) (K (SV.own 0 0 1 1) [some (SB.lst 9 [SV.str z])] []) (K SV.nils [] [])) := by kernel_rfl
theorem rp_after1 (s : ByteArray) (m : Nat) (g : Nat → List SV) (z : ByteArray) (i : Nat) (K : KC) : afterE rlE (keepW rlR 0) rpF rlP 0 K (.exit 0) (rpS s (.own 1 0 1 m) (some (.row 9 1 m g)) z i) =
  (Br (!z == (⟨#[]⟩ : ByteArray)) (Br (decide ((m + 1) * 16 ≤ 1099511627776) && decide (m + 1 < 9223372036854775808) && decide (m = m)) (K (SV.own 0 0 1 (m + 1)) [some (SB.row 9 1 (m + 1) (rowPut m [SV.str z] g))] []) (False)) (K (SV.own 0 0 1 m) [some (SB.row 9 1 m g)] [])) := by kernel_rfl
theorem rl_step {l : List Int} (hb : inByte l) (hl : l.length ≤ 1048576) {L : List (List Int)} {o : SV} {b : Option SB} (ht : tellsL 9 1 1 strC L o b) (hL : L.length ≤ 1048577) {j i : Nat} (hj : j ≤ i) (KK : Ex → St → Prop)
    (h1 : l.length < i ∨ (i = l.length ∧ j = l.length) → KK (.exit 0) (rlS (bytesOf l) o b j i))
    (h2 : (i = l.length ∧ j ≠ l.length) ∨ (i < l.length ∧ l.getD i 0 = 10) → ∀ o' b', tellsL 9 1 1 strC (L ++ [(l.drop j).take (i - j)]) o' b' → KK .normal (rlS (bytesOf l) o' b' (i + 1 : Nat) (i + 1 : Nat)))
    (h3 : i < l.length → l.getD i 0 ≠ 10 → KK .normal (rlS (bytesOf l) o b j (i + 1 : Nat))) : roundE rlE (keepW rlR 0) rlF rlP 0 KK (rlS (bytesOf l) o b j i) := by
  have hw : i ≤ l.length → IntKind.i64.wrap ((i : Int) + 1) = ((i + 1 : Nat) : Int) := fun h => by rw [wi64]; omega
  rcases ht with ⟨rfl, rfl, rfl⟩ | ⟨g, hne, rfl, rfl, hg⟩
  · have app : (i = l.length ∧ j ≠ l.length) ∨ (i < l.length ∧ l.getD i 0 = 10) → KK .normal (rlS (bytesOf l) (.own 1 0 1 1) (some (.row 9 1 1 fun k => cut [.str (bytesOf ((l.drop j).take (i - j)))] (k * 1) 1)) (i + 1 : Nat) (i + 1 : Nat)) := fun h => h2 h _ _ (by rw [List.nil_append]; exact tells_first rfl rfl)
    rw [rl_round0]
    simp only [bytes_size, extract_nat, index_nat hb]
    refine Br.of (fun c => ?_) fun c => h1 (.inl (by have := of_decide_eq_false c; omega))
    have c := of_decide_eq_true c
    rw [hw (by omega)]
    refine Br.of (fun d => ?_) fun d => ?_
    · rw [beq_int] at d
      refine Br.of (fun e => h1 (.inr ⟨d, beq_int.1 e⟩)) fun e => Br.of (fun _ => Br.of (fun _ => app (.inl ⟨d, beq_intF.1 e⟩)) fun f => bnd_t hj (by omega) f) fun f => absurd d (beq_intF.1 f)
    · rw [beq_intF] at d
      refine Br.of (fun f => absurd (beq_int.1 f) d) fun _ => Br.of (fun _ => Br.of (fun e => Br.of (fun _ => app (.inr ⟨by omega, by simpa using e⟩)) fun f => bnd_t hj (by omega) f) fun e => h3 (by omega) (by simpa using e)) fun f => in_f (by omega) f
  · have app : (i = l.length ∧ j ≠ l.length) ∨ (i < l.length ∧ l.getD i 0 = 10) → KK .normal (rlS (bytesOf l) (.own 1 0 1 (L.length + 1)) (some (.row 9 1 (L.length + 1) (rowPut L.length [.str (bytesOf ((l.drop j).take (i - j)))] g))) (i + 1 : Nat) (i + 1 : Nat)) := fun h => h2 h _ _ (tells_push rfl rfl hg)
    rw [rl_round1]
    simp only [bytes_size, extract_nat, index_nat hb]
    refine Br.of (fun c => ?_) fun c => h1 (.inl (by have := of_decide_eq_false c; omega))
    have c := of_decide_eq_true c
    rw [hw (by omega)]
    refine Br.of (fun d => ?_) fun d => ?_
    · rw [beq_int] at d
      refine Br.of (fun e => h1 (.inr ⟨d, beq_int.1 e⟩)) fun e => Br.of (fun _ => Br.of (fun _ => Br.of (fun _ => app (.inl ⟨d, beq_intF.1 e⟩)) fun f => lim_g (m := L.length) (by omega) f) fun f => bnd_t hj (by omega) f) fun f => absurd d (beq_intF.1 f)
    · rw [beq_intF] at d
      refine Br.of (fun f => absurd (beq_int.1 f) d) fun _ => Br.of (fun _ => Br.of (fun e => Br.of (fun _ => Br.of (fun _ => app (.inr ⟨by omega, by simpa using e⟩)) fun f => lim_g (m := L.length) (by omega) f) fun f => bnd_t hj (by omega) f) fun e => h3 (by omega) (by simpa using e)) fun f => in_f (by omega) f
theorem rl_law (l : List Int) (hb : inByte l) (hl : l.length ≤ 1048576) (K : KC) (hK : rowsEndE 9 1 strC (linesL l) K) : runL rlR (fun _ => 0) y1 3 26 [.str (bytesOf l)] [] K := by
  rw [rl_entry]
  have fin : ∀ (o : SV) (b : Option SB) (j i : Nat), tellsL 9 1 1 strC (linesL l) o b → afterE rlE (keepW rlR 0) rlF rlP 0 K (.exit 0) (rlS (bytesOf l) o b j i) := by
    intro o b j i ht
    rcases ht with ⟨h0, rfl, rfl⟩ | ⟨g, hne, rfl, rfl, hg⟩
    · rw [rl_after0]; exact hK _ _ (.inl ⟨h0, rfl, rfl⟩)
    · rw [rl_after1]; exact hK _ _ (.inr (.inl ⟨g, rfl, rfl, hg⟩))
  refine ⟨l.length + 3, loop_m (fun a : List (List Int) × SV × Option SB × Nat × Nat => rlS (bytesOf l) a.2.1 a.2.2.1 a.2.2.2.1 a.2.2.2.2) (fun a => l.length + 2 - a.2.2.2.2)
    (fun a => tellsL 9 1 1 strC a.1 a.2.1 a.2.2.1 ∧ a.1.length ≤ a.2.2.2.2 ∧ a.2.2.2.1 ≤ a.2.2.2.2 ∧ ((a.2.2.2.2 ≤ l.length ∧ a.1 ++ lnR ((l.drop a.2.2.2.1).take (a.2.2.2.2 - a.2.2.2.1)) (l.drop a.2.2.2.2) = linesL l) ∨ (a.2.2.2.2 = l.length + 1 ∧ a.1 = linesL l))) ?_ (l.length + 3) ([], .nils, none, 0, 0)
    ⟨tells_nil, Nat.le_refl _, Nat.le_refl _, .inl ⟨Nat.zero_le _, rfl⟩⟩ (by show l.length + 2 - 0 < _; omega)⟩
  rintro ⟨L, o, b, j, i⟩ ⟨ht, h1, h2, h3⟩ X hX
  simp only at ht h1 h2 h3 hX ⊢
  refine rl_step hb hl ht (by omega) h2 _ (fun h => ?_) (fun h o' b' ht' => ?_) fun h h' => ?_
  · refine fin o b j i ?_
    rcases h3 with ⟨h3, h4⟩ | ⟨h3, h4⟩
    · have h5 : i = l.length ∧ j = l.length := by omega
      obtain ⟨rfl, rfl⟩ := h5
      rw [List.drop_length, Nat.sub_self, List.take_zero] at h4
      have h4 : L ++ [] = linesL l := h4
      rw [List.append_nil] at h4
      rw [← h4]; exact ht
    · rw [← h4]; exact ht
  · refine hX (L ++ [(l.drop j).take (i - j)], o', b', i + 1, i + 1) ⟨ht', by simp; omega, Nat.le_refl _, ?_⟩ (by show l.length + 2 - (i + 1) < l.length + 2 - i; omega)
    show (i + 1 ≤ l.length ∧ (L ++ [(l.drop j).take (i - j)]) ++ lnR ((l.drop (i + 1)).take (i + 1 - (i + 1))) (l.drop (i + 1)) = linesL l) ∨ (i + 1 = l.length + 1 ∧ L ++ [(l.drop j).take (i - j)] = linesL l)
    rcases h3 with ⟨h3, h4⟩ | ⟨h3, h4⟩
    · rcases h with ⟨rfl, h⟩ | ⟨h, h'⟩
      · refine .inr ⟨rfl, ?_⟩
        rw [List.drop_length] at h4
        unfold lnR at h4
        rw [show ((l.drop j).take (l.length - j)).isEmpty = false by
          rw [Bool.eq_false_iff]; intro e
          have := List.isEmpty_iff.1 e
          have := congrArg List.length this
          simp at this; omega] at h4
        exact h4
      · refine .inl ⟨h, ?_⟩
        rw [drop_getD h] at h4
        unfold lnR at h4
        rw [show (l.getD i 0 == 10) = true by rw [h']; rfl] at h4
        rw [Nat.sub_self, List.take_zero, List.append_assoc]
        exact h4
    · omega
  · refine hX (L, o, b, j, i + 1) ⟨ht, by show L.length ≤ i + 1; omega, by show j ≤ i + 1; omega, .inl ⟨h, ?_⟩⟩ (by show l.length + 2 - (i + 1) < l.length + 2 - i; omega)
    show L ++ lnR ((l.drop j).take (i + 1 - j)) (l.drop (i + 1)) = linesL l
    rcases h3 with ⟨h3, h4⟩ | ⟨h3, h4⟩
    · rw [drop_getD h] at h4
      unfold lnR at h4
      rw [show (l.getD i 0 == 10) = false by rw [beq_eq_false_iff_ne]; exact h', cond_false, take_succ h2 h] at h4
      exact h4
    · omega
theorem str_nil (w : List Int) : (!bytesOf w == (⟨#[]⟩ : ByteArray)) = !w.isEmpty := by
  rw [bytes_nil]; cases w <;> simp
theorem rp_step {l : List Int} (hb : inByte l) (hl : l.length ≤ 1048576) {L : List (List Int)} {o : SV} {b : Option SB} (ht : tellsL 9 1 1 strC L o b) (hL : L.length ≤ 1048577) {w : List Int} (hw : w.length ≤ 1048576) {i : Nat} (KK : Ex → St → Prop)
    (h1 : l.length ≤ i ∨ l.getD i 0 = 35 → KK (.exit 0) (rpS (bytesOf l) o b (bytesOf w) i))
    (h2 : i < l.length → l.getD i 0 ≠ 35 → sepC (l.getD i 0) = true → w ≠ [] → ∀ o' b', tellsL 9 1 1 strC (L ++ [w]) o' b' → KK .normal (rpS (bytesOf l) o' b' (bytesOf []) (i + 1 : Nat)))
    (h3 : i < l.length → l.getD i 0 ≠ 35 → sepC (l.getD i 0) = true → w = [] → KK .normal (rpS (bytesOf l) o b (bytesOf []) (i + 1 : Nat)))
    (h4 : i < l.length → l.getD i 0 ≠ 35 → sepC (l.getD i 0) = false → KK .normal (rpS (bytesOf l) o b (bytesOf (w ++ [l.getD i 0])) (i + 1 : Nat))) : roundE rlE (keepW rlR 0) rpF rlP 0 KK (rpS (bytesOf l) o b (bytesOf w) i) := by
  have hwr : i < l.length → IntKind.i64.wrap ((i : Int) + 1) = ((i + 1 : Nat) : Int) := fun h => by rw [wi64]; omega
  have hone : i < l.length → bytesOf w ++ bytesOf ((l.drop i).take (i + 1 - i)) = bytesOf (w ++ [l.getD i 0]) := fun h => by
    rw [bytes_append, drop_getD h, show i + 1 - i = 1 by omega]; rfl
  have hsz : i < l.length → w.length + (bytesOf ((l.drop i).take (i + 1 - i))).size < 9223372036854775808 := fun h => by
    rw [bytes_size, List.length_take, List.length_drop]; omega
  rcases ht with ⟨rfl, rfl, rfl⟩ | ⟨g, hne, rfl, rfl, hg⟩
  · have app : ∀ (q : l.getD i 0 = 32 ∨ l.getD i 0 = 9), i < l.length → w ≠ [] → KK .normal (rpS (bytesOf l) (.own 1 0 1 1) (some (.row 9 1 1 fun k => cut [.str (bytesOf w)] (k * 1) 1)) (bytesOf []) (i + 1 : Nat)) := fun q hi hw => h2 hi (by omega) (by unfold sepC; rcases q with q | q <;> rw [q] <;> rfl) hw _ _ (by rw [List.nil_append]; exact tells_first rfl rfl)
    have nap : ∀ (q : l.getD i 0 = 32 ∨ l.getD i 0 = 9), i < l.length → w = [] → KK .normal (rpS (bytesOf l) .nils none (bytesOf []) (i + 1 : Nat)) := fun q hi hw => h3 hi (by omega) (by unfold sepC; rcases q with q | q <;> rw [q] <;> rfl) hw
    rw [rp_round0]
    simp only [bytes_size, index_nat hb, str_nil]
    refine Br.of (fun c => ?_) fun c => h1 (.inl (by have := of_decide_eq_false c; omega))
    have c : i < l.length := by have := of_decide_eq_true c; omega
    simp only [hwr c, extract_nat, hone c]
    refine Br.of (fun _ => Br.of (fun d => Br.of (fun _ => Br.of (fun e => Br.of (fun f => app (.inl (by simpa using e)) c (by simpa using f)) fun f => nap (.inl (by simpa using e)) c (by simpa using f)) fun e => Br.of (fun _ => Br.of (fun e2 => Br.of (fun f => app (.inr (by simpa using e2)) c (by simpa using f)) fun f => nap (.inr (by simpa using e2)) c (by simpa using f)) fun e2 => Br.of (fun _ => Br.of (fun _ => ?_) fun f => absurd (hsz c) (of_decide_eq_false f)) fun f => bnd_t (Nat.le_succ i) c f) fun f => in_f c f) fun f => in_f c f) fun d => h1 (.inr (by simpa using d))) fun f => in_f c f
    exact h4 c (by simpa using d) (by unfold sepC; rw [Bool.or_eq_false_iff]; exact ⟨e, e2⟩)
  · have app : ∀ (q : l.getD i 0 = 32 ∨ l.getD i 0 = 9), i < l.length → w ≠ [] → KK .normal (rpS (bytesOf l) (.own 1 0 1 (L.length + 1)) (some (.row 9 1 (L.length + 1) (rowPut L.length [.str (bytesOf w)] g))) (bytesOf []) (i + 1 : Nat)) := fun q hi hw => h2 hi (by omega) (by unfold sepC; rcases q with q | q <;> rw [q] <;> rfl) hw _ _ (tells_push rfl rfl hg)
    have nap : ∀ (q : l.getD i 0 = 32 ∨ l.getD i 0 = 9), i < l.length → w = [] → KK .normal (rpS (bytesOf l) (.own 1 0 1 L.length) (some (.row 9 1 L.length g)) (bytesOf []) (i + 1 : Nat)) := fun q hi hw => h3 hi (by omega) (by unfold sepC; rcases q with q | q <;> rw [q] <;> rfl) hw
    rw [rp_round1]
    simp only [bytes_size, index_nat hb, str_nil]
    refine Br.of (fun c => ?_) fun c => h1 (.inl (by have := of_decide_eq_false c; omega))
    have c : i < l.length := by have := of_decide_eq_true c; omega
    simp only [hwr c, extract_nat, hone c]
    refine Br.of (fun _ => Br.of (fun d => Br.of (fun _ => Br.of (fun e => Br.of (fun f => Br.of (fun _ => app (.inl (by simpa using e)) c (by simpa using f)) fun f => lim_g (m := L.length) (by omega) f) fun f => nap (.inl (by simpa using e)) c (by simpa using f)) fun e => Br.of (fun _ => Br.of (fun e2 => Br.of (fun f => Br.of (fun _ => app (.inr (by simpa using e2)) c (by simpa using f)) fun f => lim_g (m := L.length) (by omega) f) fun f => nap (.inr (by simpa using e2)) c (by simpa using f)) fun e2 => Br.of (fun _ => Br.of (fun _ => ?_) fun f => absurd (hsz c) (of_decide_eq_false f)) fun f => bnd_t (Nat.le_succ i) c f) fun f => in_f c f) fun f => in_f c f) fun d => h1 (.inr (by simpa using d))) fun f => in_f c f
    exact h4 c (by simpa using d) (by unfold sepC; rw [Bool.or_eq_false_iff]; exact ⟨e, e2⟩)
theorem rp_law (l : List Int) (hb : inByte l) (hl : l.length ≤ 1048576) (K : KC) (hK : rowsEndE 9 1 strC (piecesL l) K) : runL rlR (fun _ => 0) y1 3 24 [.str (bytesOf l)] [] K := by
  rw [rp_entry]
  have fin : ∀ (L : List (List Int)) (o : SV) (b : Option SB) (w : List Int) (i : Nat), tellsL 9 1 1 strC L o b → L.length ≤ 1048577 → L ++ fldA w [] = piecesL l → afterE rlE (keepW rlR 0) rpF rlP 0 K (.exit 0) (rpS (bytesOf l) o b (bytesOf w) i) := by
    intro L o b w i ht hL he
    unfold fldA at he
    rcases ht with ⟨rfl, rfl, rfl⟩ | ⟨g, hne, rfl, rfl, hg⟩
    · rw [rp_after0, str_nil]
      refine Br.of (fun c => ?_) fun c => ?_
      · rw [Bool.not_eq_true'] at c
        rw [c] at he
        exact hK _ _ (.inr (.inr ⟨w, he.symm, rfl, rfl⟩))
      · rw [Bool.not_eq_false'] at c
        rw [c] at he
        exact hK _ _ (.inl ⟨he.symm, rfl, rfl⟩)
    · rw [rp_after1, str_nil]
      refine Br.of (fun c => Br.of (fun _ => ?_) fun f => lim_f (m := L.length) (by omega) f) fun c => ?_
      · rw [Bool.not_eq_true'] at c
        rw [c] at he
        have := tells_push (e := 9) (st := 1) (id := 0) (f := strC) (x := w) (c := [.str (bytesOf w)]) rfl rfl hg
        rw [show L ++ [w] = piecesL l from he] at this
        rcases this with ⟨_, h, _⟩ | ⟨g', _, h1, h2, h3⟩
        · cases h
        · have hl2 : (piecesL l).length = L.length + 1 := by rw [← he]; simp
          refine hK _ _ (.inr (.inl ⟨rowPut L.length [.str (bytesOf w)] g, by rw [hl2], by rw [hl2], fun j hj => ?_⟩))
          simp only [Option.some.injEq, SB.row.injEq] at h2
          obtain ⟨_, _, _, rfl⟩ := h2
          exact h3 j hj
      · rw [Bool.not_eq_false'] at c
        rw [c] at he
        simp only [cond_true, List.append_nil] at he
        subst he
        exact hK _ _ (.inr (.inl ⟨g, rfl, rfl, hg⟩))
  refine ⟨l.length + 1, loop_m (fun a : List (List Int) × SV × Option SB × List Int × Nat => rpS (bytesOf l) a.2.1 a.2.2.1 (bytesOf a.2.2.2.1) a.2.2.2.2) (fun a => l.length - a.2.2.2.2)
    (fun a => tellsL 9 1 1 strC a.1 a.2.1 a.2.2.1 ∧ a.1.length + a.2.2.2.1.length ≤ a.2.2.2.2 ∧ a.2.2.2.2 ≤ l.length ∧ a.1 ++ fldA a.2.2.2.1 (cutH 35 (l.drop a.2.2.2.2)) = piecesL l) ?_ (l.length + 1) ([], .nils, none, [], 0)
    ⟨tells_nil, Nat.le_refl _, Nat.zero_le _, rfl⟩ (by show l.length - 0 < _; omega)⟩
  rintro ⟨L, o, b, w, i⟩ ⟨ht, h1, h2, h3⟩ X hX
  simp only at ht h1 h2 h3 hX ⊢
  have hstep : i < l.length → l.getD i 0 ≠ 35 → cutH 35 (l.drop i) = l.getD i 0 :: cutH 35 (l.drop (i + 1)) := fun h h' => by
    rw [drop_getD h]
    conv => lhs; unfold cutH
    rw [show (l.getD i 0 == 35) = false by rw [beq_eq_false_iff_ne]; exact h']; rfl
  refine rp_step hb hl ht (by omega) (by omega) _ (fun h => ?_) (fun h h' hs hw o' b' ht' => ?_) (fun h h' hs hw => ?_) fun h h' hs => ?_
  · refine fin L o b w i ht (by omega) ?_
    rw [← h3]
    by_cases hi : i < l.length
    · rw [drop_getD hi]
      rcases h with h | h
      · omega
      · conv => rhs; unfold cutH
        rw [h]; rfl
    · rw [List.drop_of_length_le (by omega)]; rfl
  · refine hX (L ++ [w], o', b', [], i + 1) ⟨ht', by simp; omega, h, ?_⟩ (by show l.length - (i + 1) < l.length - i; omega)
    show (L ++ [w]) ++ fldA [] (cutH 35 (l.drop (i + 1))) = piecesL l
    rw [hstep h h'] at h3
    unfold fldA at h3
    rw [hs, show w.isEmpty = false by cases w with | nil => exact absurd rfl hw | cons => rfl] at h3
    rw [List.append_assoc]; exact h3
  · refine hX (L, o, b, [], i + 1) ⟨ht, by show L.length + 0 ≤ i + 1; omega, h, ?_⟩ (by show l.length - (i + 1) < l.length - i; omega)
    show L ++ fldA [] (cutH 35 (l.drop (i + 1))) = piecesL l
    rw [hstep h h'] at h3
    unfold fldA at h3
    rw [hs, hw] at h3
    exact h3
  · refine hX (L, o, b, w ++ [l.getD i 0], i + 1) ⟨ht, by show L.length + (w ++ [l.getD i 0]).length ≤ i + 1; simp; omega, h, ?_⟩ (by show l.length - (i + 1) < l.length - i; omega)
    show L ++ fldA (w ++ [l.getD i 0]) (cutH 35 (l.drop (i + 1))) = piecesL l
    rw [hstep h h'] at h3
    unfold fldA at h3
    rw [hs] at h3
    exact h3
theorem runL_rowsE {α : Type} {R : List (Nat × Keep)} {u : Nat → Nat} {B : Know Tryd.prog} {n : Nat} {k : FuncId} {xs : List SV} {e st : Nat} {f : α → List SV} {d0 : α} {L : List α} (hf : ∀ x, (f x).length = st) (hi : ∀ x, ids.idsL (f x) = [])
    (h : okL xs → ∀ K : KC, rowsEndE e st f L K → runL R u B n k xs [] K) : CallOK Tryd.prog k xs [] (.ro L.length st (listG f d0 L)) [] [] :=
  callOK_rowsE hf hi (sat_of_ok (fun _ hK => rowsEndE_some d0 hK) fun h1 _ K hK => calls_sat (env := tab.env B u (fun _ => false)) ⟨tab.htt, B.ok⟩ tab.mixed (fun n => keepW_weaker n R) tab.hft n _ _ _ K (h h1 K hK))
theorem rlines_ok (s : ByteArray) (h : s.size ≤ 1048576) : CallOK Tryd.prog 26 [.str s] [] (.ro (linesL (listOf s)).length 1 (strsG (linesL (listOf s)))) [] [] := by
  refine runL_rowsE (R := rlR) (u := fun _ => 0) (B := y1) (n := 3) (e := 9) (fun _ => rfl) (fun _ => rfl) fun _ K hK => ?_
  have := rl_law (listOf s) (list_inByte s) (by rw [list_length]; exact h) K hK
  rw [bytes_list] at this
  exact this
theorem rpieces_ok (s : ByteArray) (h : s.size ≤ 1048576) : CallOK Tryd.prog 24 [.str s] [] (.ro (piecesL (listOf s)).length 1 (strsG (piecesL (listOf s)))) [] [] := by
  refine runL_rowsE (R := rlR) (u := fun _ => 0) (B := y1) (n := 3) (e := 9) (fun _ => rfl) (fun _ => rfl) fun _ K hK => ?_
  have := rp_law (listOf s) (list_inByte s) (by rw [list_length]; exact h) K hK
  rw [bytes_list] at this
  exact this
theorem lines_ok (s : ByteArray) (h : s.size ≤ 1048576) : CallOK Tryd.prog 25 [.str s] [] (.ro (linesL (listOf s)).length 1 (strsG (linesL (listOf s)))) [] [] := by
  by_cases h0 : listOf s = []
  · rw [h0]
    refine callOK_nils (run_ok y1 3 fun _ _ K hK => ?_)
    rw [lines_nf]
    refine Br.of (fun _ => hK) fun c => ?_
    have : s = bytesOf [] := by rw [← h0, bytes_list]
    rw [this] at c; cases c
  · refine run_ok y1 3 fun _ _ K hK => ?_
    rw [lines_nf]
    have hz : (s == (⟨#[]⟩ : ByteArray)) = false := by
      have := bytes_nil (listOf s)
      rw [bytes_list] at this
      rw [this]
      refine decide_eq_false fun h => h0 (List.eq_nil_of_length_eq_zero (by omega))
    rw [hz]
    have hch : inByte (chopL (listOf s)) := fun x hx => by
      rw [chop_eq] at hx
      cases hc : (listOf s).drop ((listOf s).length - 1) == [10] with
      | true => rw [hc] at hx; exact list_inByte s x (List.mem_of_mem_take hx)
      | false => rw [hc] at hx; exact list_inByte s x hx
    have hlen : (chopL (listOf s)).length ≤ s.size := by
      rw [chop_eq, ← list_length]
      cases (listOf s).drop ((listOf s).length - 1) == [10] with
      | true => simp
      | false => exact Nat.le_refl _
    rw [list_bytes hch, spl_ln _ _ h0, bytes_size]
    exact Br.of (fun c => by cases c) fun _ => Br.of (fun _ => hK) fun c => absurd c (by simp; omega)
end Go.Proofs.YtjlmofhokbnloaaDoor

