import Derived.Test.YtbedljhbakdghaaGreatDoorVd
import Derived.Test.YtbedljhbakdghaaGreatDoorSeBm
namespace Go.Proofs.YtbedljhbakdghaaGreatDoor
open Go.Se
set_option maxRecDepth 100000
noncomputable abbrev tkraE : Env := envL tkR (fun _ => 0) r4 1
noncomputable abbrev tkraF : Func := Tryz.f50
theorem tkra_entry (n : Int) (B : List Int) (s : Rs) (K : KC) : runL tkR (fun _ => 0) r4 2 50 [.int .i64 n, (.fn (.func 51) [.agg [.ptr 0 0]] [])] (inB B s) K =
  (∃ q_, loopE tkraE (keepW tkR 1) tkraF tkP 0 1 K q_ { tmps := [(1, SV.fn (Fn.func 51) [SV.agg [SV.ptr 0 0]] []), (5, SV.nils), (6, SV.int .i64 n), (7, SV.int .i64 0)], store := [(0, some (SB.cells 136 [SV.ro B.length 1 (bG B), SV.int .i64 s.pos, SV.int .i64 s.last, SV.int .i64 s.err, SV.int .i64 s.place])), (1, none)], nxt := 2, dirty := [0, 1, 2, 3, 4, 5, 6], nt := 16 }) := by kernel_rfl
theorem tkra_r0 (n : Int) (B : List Int) (s : Rs) (K : Ex → St → Prop) : roundE tkraE (keepW tkR 1) tkraF tkP 0 K (tkS (.fn (.func 51) [.agg [.ptr 0 0]] []) n B 0 .nils none s) =
  (Br (decide (0 < n)) (rdS (railR) B s fun (a87 : List (Int × Int)) (s86 : Rs) => K Ex.normal { tmps := [(1, SV.fn (Fn.func 51) [SV.agg [SV.ptr 0 0]] []), (5, SV.own 1 0 1 1), (6, SV.int .i64 n), (7, SV.int .i64 1)], store := [(0, some (SB.cells 136 (rdC B s86))), (1, some (SB.row 28 1 1 fun (i : Nat) => cut [SV.ro a87.length 2 (listG plL (0, 0) a87)] (i * 1) 1))], nxt := 2, dirty := [0, 1, 2, 3, 4, 5, 6], nt := 16 }) (K (Ex.exit 0) { tmps := [(1, SV.fn (Fn.func 51) [SV.agg [SV.ptr 0 0]] []), (5, SV.nils), (6, SV.int .i64 n), (7, SV.int .i64 0)], store := [(0, some (SB.cells 136 (rdC B s))), (1, none)], nxt := 2, dirty := [0, 1, 2, 3, 4, 5, 6], nt := 16 })) := by kernel_rfl
theorem tkra_r1 (n : Int) (B : List Int) (i m : Nat) (g : Nat → List SV) (s : Rs) (K : Ex → St → Prop) : roundE tkraE (keepW tkR 1) tkraF tkP 0 K (tkS (.fn (.func 51) [.agg [.ptr 0 0]] []) n B i (.own 1 0 1 m) (some (.row 28 1 m g)) s) =
  (Br (decide ((↑i : Int) < n)) (rdS (railR) B s fun (a87 : List (Int × Int)) (s86 : Rs) => Br (decide ((m + 1) * 24 ≤ 1099511627776) && decide (m + 1 < 9223372036854775808) && decide (m = m)) (K Ex.normal { tmps := [(1, SV.fn (Fn.func 51) [SV.agg [SV.ptr 0 0]] []), (5, SV.own 1 0 1 (m + 1)), (6, SV.int .i64 n), (7, SV.int .i64 (IntKind.i64.wrap ((↑i : Int) + 1)))], store := [(0, some (SB.cells 136 (rdC B s86))), (1, some (SB.row 28 1 (m + 1) (rowPut m [SV.ro a87.length 2 (listG plL (0, 0) a87)] g)))], nxt := 2, dirty := [0, 1, 2, 3, 4, 5, 6], nt := 16 }) (False)) (K (Ex.exit 0) { tmps := [(1, SV.fn (Fn.func 51) [SV.agg [SV.ptr 0 0]] []), (5, SV.own 1 0 1 m), (6, SV.int .i64 n), (7, SV.int .i64 (↑i : Int))], store := [(0, some (SB.cells 136 (rdC B s))), (1, some (SB.row 28 1 m g))], nxt := 2, dirty := [0, 1, 2, 3, 4, 5, 6], nt := 16 })) := by kernel_rfl
theorem tkra_a0 (n : Int) (B : List Int) (i : Nat) (s : Rs) (K : KC) : afterE tkraE (keepW tkR 1) tkraF tkP 1 K (.exit 0) (tkS (.fn (.func 51) [.agg [.ptr 0 0]] []) n B i .nils none s) =
  (K SV.nils [some (SB.cells 136 [SV.ro B.length 1 (bG B), SV.int .i64 s.pos, SV.int .i64 s.last, SV.int .i64 s.err, SV.int .i64 s.place])] [0]) := by kernel_rfl
theorem tkra_a1 (n : Int) (B : List Int) (i m : Nat) (g : Nat → List SV) (s : Rs) (K : KC) : afterE tkraE (keepW tkR 1) tkraF tkP 1 K (.exit 0) (tkS (.fn (.func 51) [.agg [.ptr 0 0]] []) n B i (.own 1 0 1 m) (some (.row 28 1 m g)) s) =
  (K (SV.own 1 0 1 m) [some (SB.cells 136 [SV.ro B.length 1 (bG B), SV.int .i64 s.pos, SV.int .i64 s.last, SV.int .i64 s.err, SV.int .i64 s.place]), some (SB.row 28 1 m g)] [0]) := by kernel_rfl
theorem tkra_law (n : Int) (hn : n ≤ 100000) {B : List Int} {s : Rs} (hs : rdOk B s) (K : KC) (hK : rowsEndS 28 1 raL (takeR railR n.toNat B s).1 (.cells 136 (rdC B (takeR railR n.toNat B s).2)) K) :
    runL tkR (fun _ => 0) r4 2 50 [.int .i64 n, (.fn (.func 51) [.agg [.ptr 0 0]] [])] (inB B s) K := by
  rw [tkra_entry]
  refine take_loop (f := raL) (st := 1) (e := 28) (fun _ => rfl) reads_rail hs n.toNat (fun i o b s => tkS (.fn (.func 51) [.agg [.ptr 0 0]] []) n B i o b s) (fun h0 s hs X hX => ?_) (fun i hi hi0 s g hs X hX => ?_) (fun o b ht X => ?_)
  · rw [tkra_r0]
    refine Br.of (fun _ => rd_step reads_rail hs fun a s1 e1 h1 => hX a s1 e1 h1) fun c => absurd (of_decide_eq_false c) (by omega)
  · rw [tkra_r1, wi64_succ hi (by omega)]
    refine Br.of (fun _ => rd_step reads_rail hs fun a s1 e1 h1 => Br.of (fun _ => hX a s1 e1 h1) fun c => ?_) fun c => in_i hi c
    simp at c; omega
  · have hl := takeR_len (rd := railR) B s n.toNat
    refine rows_end ht hK (fun h1 h2 hK => ?_) fun m g h1 h2 hK => ?_
    · subst h1; subst h2
      have hz : n.toNat = 0 := by
        rcases ht with ⟨hL, _⟩ | ⟨_, _, h, _⟩
        · rw [hL] at hl; exact hl.symm
        · cases h
      have e0 : tkS (.fn (.func 51) [.agg [.ptr 0 0]] []) n B n.toNat .nils none (takeR railR n.toNat B s).2 = tkS (.fn (.func 51) [.agg [.ptr 0 0]] []) n B 0 .nils none (takeR railR n.toNat B s).2 := by rw [hz]
      rw [e0, tkra_r0]
      refine Br.of (fun c => absurd (of_decide_eq_true c) (by omega)) fun _ => ?_
      show afterE tkraE (keepW tkR 1) tkraF tkP 1 K (.exit 0) (tkS (.fn (.func 51) [.agg [.ptr 0 0]] []) n B 0 .nils none (takeR railR n.toNat B s).2)
      rw [tkra_a0]; exact hK
    · subst h1; subst h2
      rw [tkra_r1]
      refine Br.of (fun c => out_i c) fun _ => ?_
      show afterE tkraE (keepW tkR 1) tkraF tkP 1 K (.exit 0) (tkS (.fn (.func 51) [.agg [.ptr 0 0]] []) n B n.toNat (.own 1 0 1 m) (some (.row 28 1 m g)) (takeR railR n.toNat B s).2)
      rw [tkra_a1]; exact hK
def ctkra : List SV → List (Option SB) → KC → Prop := cRdP 136 (rowSV 1 raL []) (pTake 51 railR)
theorem tkra_sat (xs : List SV) (σ : List (Option SB)) : Sat Tryz.prog 50 xs σ (ctkra xs σ) :=
  cRdP_sat (fun xs c rd hp hc B s hs => by
    obtain ⟨n, rfl, rfl, rfl⟩ := pTake_eq hp
    exact callOK_rowsS (idsL_rd B _) (fun _ => rfl) fun K hK => calls_sat (env := tab.env r4 (fun _ => 0) (fun _ => false)) ⟨tab.htt, r4.ok⟩ tab.mixed (fun n => keepW_weaker n tkR) tab.hft 2 _ _ _ K (tkra_law n hc hs K hK)) xs σ
noncomputable def r5 : Know Tryz.prog := (r4).add 50 ctkra tkra_sat
theorem vdec_nf (B : List Int) (K : KC) : run r5 3 11 [.ro B.length 1 (bG B)] [] K =
  ((bytesG B.length (bG B)) ∧ ((B.length ≤ 1000000) ∧ ((bytesG B.length (bG B)) ∧ ((rdOk (rowB B.length (bG B)) { pos := 0, last := 0, err := 0, place := 0 }) ∧ (∀ (a396 : Unit), ∀ (s395 : Rs), ∀ (_ : Is2 (markR markB (rowB B.length (bG B)) { pos := 0, last := 0, err := 0, place := 0 }) a396 s395), rdS (countR 60 1024) B s395 fun (a391 : Int) (s390 : Rs) => rdS (numR) B s390 fun (a386 : Int) (s385 : Rs) => rdS (countR 1 64) B s385 fun (a381 : Int) (s380 : Rs) => rdS (countR 1 64) B s380 fun (a376 : Int) (s375 : Rs) => rdS (placeR) B s375 fun (a371 : Int × Int) (s370 : Rs) => (IntKind.i64.wrap (IntKind.i64.wrap (a381 + 1) * IntKind.i64.wrap (a376 + 1)) ≤ 100000) ∧ (rdS (takeR numR (IntKind.i64.wrap (IntKind.i64.wrap (a381 + 1) * IntKind.i64.wrap (a376 + 1))).toNat) B s370 fun (a365 : List Int) (s364 : Rs) => (IntKind.i64.wrap (a381 * a376) ≤ 100000) ∧ (rdS (takeR (countR 0 7) (IntKind.i64.wrap (a381 * a376)).toNat) B s364 fun (a359 : List Int) (s358 : Rs) => rdS (countR 1 8) B s358 fun (a354 : Int) (s353 : Rs) => (a354 ≤ 100000) ∧ (rdS (takeR kindR a354.toNat) B s353 fun (a348 : List (Int × Int × Bool)) (s347 : Rs) => rdS (countR 3 64) B s347 fun (a343 : Int) (s342 : Rs) => (a343 ≤ 100000) ∧ (rdS (takeR placeR a343.toNat) B s342 fun (a337 : List (Int × Int)) (s336 : Rs) => rdS (countR 0 16) B s336 fun (a332 : Int) (s331 : Rs) => (a332 ≤ 100000) ∧ ((bytesG B.length (bG B)) ∧ ((rdOk (rowB B.length (bG B)) s331) ∧ (∀ (a326 : List (List (Int × Int))), ∀ (s325 : Rs), ∀ (_ : Is2 (takeR railR a332.toNat (rowB B.length (bG B)) s331) a326 s325), rdS (countR 1 16) B s325 fun (a321 : Int) (s320 : Rs) => (a321 ≤ 100000) ∧ (rdS (takeR gateR a321.toNat) B s320 fun (a315 : List (Int × Int × Int × Int × Bool)) (s314 : Rs) => rdS (placeR) B s314 fun (a310 : Int × Int) (s309 : Rs) => rdS (headR) B s309 fun (a305 : Int) (s304 : Rs) => rdS (countR 1 100) B s304 fun (a300 : Int) (s299 : Rs) => rdS (endR) B s299 fun (a295 : Int × Int) (s294 : Rs) => Br (a295.fst != 0) (K (SV.tup [SV.agg [SV.int .i64 0, SV.int .i64 0, SV.int .i64 0, SV.int .i64 0, SV.int .i64 0, SV.int .i64 0, SV.nils, SV.nils, SV.nils, SV.nils, SV.nils, SV.nils, SV.int .i64 0, SV.int .i64 0, SV.int .u32 0, SV.int .i64 0], SV.int .i64 a295.fst, SV.int .i64 a295.snd]) [] []) ((trkS (listG oneL 0 a365) (listG oneL 0 a359) (listG kiL (0, 0, false) a348) (listG plL (0, 0) a337) (listG raL [] a326) (listG gaL (0, 0, 0, 0, false) a315)) ∧ ((smallC a326.length (listG raL [] a326)) ∧ (Br ((rightV (trkOf a391 a386 a381 a376 a371.fst a371.snd a365.length (listG oneL 0 a365) a359.length (listG oneL 0 a359) a348.length (listG kiL (0, 0, false) a348) a337.length (listG plL (0, 0) a337) a326.length (listG raL [] a326) a315.length (listG gaL (0, 0, 0, 0, false) a315) a310.fst a310.snd a305 a300)).fst != 0) (K (SV.tup [SV.agg [SV.int .i64 0, SV.int .i64 0, SV.int .i64 0, SV.int .i64 0, SV.int .i64 0, SV.int .i64 0, SV.nils, SV.nils, SV.nils, SV.nils, SV.nils, SV.nils, SV.int .i64 0, SV.int .i64 0, SV.int .u32 0, SV.int .i64 0], SV.int .i64 (rightV (trkOf a391 a386 a381 a376 a371.fst a371.snd a365.length (listG oneL 0 a365) a359.length (listG oneL 0 a359) a348.length (listG kiL (0, 0, false) a348) a337.length (listG plL (0, 0) a337) a326.length (listG raL [] a326) a315.length (listG gaL (0, 0, 0, 0, false) a315) a310.fst a310.snd a305 a300)).fst, SV.int .i64 (↑B.length : Int)]) [] []) (K (SV.tup [SV.agg [SV.int .i64 a391, SV.int .i64 a386, SV.int .i64 a381, SV.int .i64 a376, SV.int .i64 a371.fst, SV.int .i64 a371.snd, SV.ro a365.length 1 (listG oneL 0 a365), SV.ro a359.length 1 (listG oneL 0 a359), SV.ro a348.length 3 (listG kiL (0, 0, false) a348), SV.ro a337.length 2 (listG plL (0, 0) a337), SV.ro a326.length 1 (listG raL [] a326), SV.ro a315.length 5 (listG gaL (0, 0, 0, 0, false) a315), SV.int .i64 a310.fst, SV.int .i64 a310.snd, SV.int .u32 a305, SV.int .i64 a300], SV.int .i64 0, SV.int .i64 0]) [] []))))))))))))))))) := by kernel_rfl
def zTrk : SV := .agg [.int .i64 0, .int .i64 0, .int .i64 0, .int .i64 0, .int .i64 0, .int .i64 0, .nils, .nils, .nils, .nils, .nils, .nils, .int .i64 0, .int .i64 0, .int .u32 0, .int .i64 0]
/-- A track that is none, as it is told. -/
def decE (x : TL × Int × Int) : SV := .tup [bif x.2.1 != 0 then zTrk else .agg (trkC x.1.trk), .int .i64 x.2.1, .int .i64 x.2.2]
theorem vdec_law {B : List Int} (hn : B.length ≤ 1000000) (K : KC) (hK : K (decE (decO B)) [] []) : run r5 3 11 [.ro B.length 1 (bG B)] [] K := by
  rw [vdec_nf]
  have h0 : rdOk B ⟨0, 0, 0, 0⟩ := ⟨Int.le_refl _, Int.natCast_nonneg _⟩
  refine ⟨bytes_bG rfl, hn, ?_⟩
  refine rd_step (reads_mark markB) h0 fun a1 s1 e1 h1 => ?_
  refine rd_step (reads_count 60 1024) h1 fun a2 s2 e2 h2 => ?_
  refine rd_step (reads_num) h2 fun a3 s3 e3 h3 => ?_
  refine rd_step (reads_count 1 64) h3 fun a4 s4 e4 h4 => ?_
  refine rd_step (reads_count 1 64) h4 fun a5 s5 e5 h5 => ?_
  refine rd_step (reads_place) h5 fun a6 s6 e6 h6 => ?_
  refine rd_stepP (reads_take reads_num _) h6 (nHs_le e4 e5) fun a7 s7 e7 h7 => ?_
  refine rd_stepP (reads_take (reads_count 0 7) _) h7 (nGs_le e4 e5) fun a8 s8 e8 h8 => ?_
  refine rd_step (reads_count 1 8) h8 fun a9 s9 e9 h9 => ?_
  refine rd_stepP (reads_take reads_kind _) h9 (by rcases count_range e9 with h | h <;> omega) fun a10 s10 e10 h10 => ?_
  refine rd_step (reads_count 3 64) h10 fun a11 s11 e11 h11 => ?_
  refine rd_stepP (reads_take reads_place _) h11 (by rcases count_range e11 with h | h <;> omega) fun a12 s12 e12 h12 => ?_
  refine rd_step (reads_count 0 16) h12 fun a13 s13 e13 h13 => ?_
  refine rd_stepP (reads_take reads_rail _) h13 (by rcases count_range e13 with h | h <;> omega) fun a14 s14 e14 h14 => ?_
  refine rd_step (reads_count 1 16) h14 fun a15 s15 e15 h15 => ?_
  refine rd_stepP (reads_take reads_gate _) h15 (by rcases count_range e15 with h | h <;> omega) fun a16 s16 e16 h16 => ?_
  refine rd_step (reads_place) h16 fun a17 s17 e17 h17 => ?_
  refine rd_step (reads_head) h17 fun a18 s18 e18 h18 => ?_
  refine rd_step (reads_count 1 100) h18 fun a19 s19 e19 h19 => ?_
  unfold rdS
  rw [rowB_bG rfl]
  refine ⟨bytes_bG rfl, h19, fun ee s20 e20 => ?_⟩
  have e20 : endR B s19 = (ee, s20) := e20
  have m1 := manyR_eq e9 e10
  have m2 := manyR_eq e11 e12
  have m3 := manyR_eq e13 e14
  have m4 := manyR_eq e15 e16
  have eb : bodyR B ⟨0, 0, 0, 0⟩ = (⟨a2, a3, a4, a5, a6, a7, a8, a10, a12, a14, a16, a17, a18, a19⟩, s19) :=
    bodyR_eq e1 e2 e3 e4 e5 e6 e7 e8 m1 m2 m3 m4 e17 e18 e19
  have ed := decO_eq eb e20
  rw [ed] at hK
  refine Br.of (fun c => ?_) fun c => ?_
  · rw [c, cond_true] at hK
    unfold decE at hK
    rw [c] at hK
    exact hK
  · rw [c, cond_false] at hK
    refine ⟨TL.shape ⟨a2, a3, a4, a5, a6, a7, a8, a10, a12, a14, a16, a17, a18, a19⟩, rails_small m3, ?_⟩
    generalize hx : (⟨a2, a3, a4, a5, a6, a7, a8, a10, a12, a14, a16, a17, a18, a19⟩ : TL) = x at hK
    have hx1 : rightV (trkOf a2 a3 a4 a5 a6.fst a6.snd a7.length (listG oneL 0 a7) a8.length (listG oneL 0 a8) a10.length (listG kiL (0, 0, false) a10) a12.length (listG plL (0, 0) a12) a14.length (listG raL [] a14) a16.length (listG gaL (0, 0, 0, 0, false) a16) a17.fst a17.snd a18 a19) = rightV x.trk := by rw [← hx]; rfl
    rw [hx1]
    refine Br.of (fun c2 => ?_) fun c2 => ?_
    · rw [c2, cond_true] at hK
      unfold decE at hK
      rw [c2] at hK
      exact hK
    · rw [c2, cond_false] at hK
      have ht := trkC_of (TL.shape x) x.rate x.cell x.cols x.rows x.corner.1 x.corner.2 x.heights.length x.ground.length x.kinds.length x.line.length x.rails.length x.gates.length x.start.1 x.start.2 x.head x.laps
      have hK2 : K (.tup [.agg (trkC x.trk), .int .i64 0, .int .i64 0]) [] [] := hK
      rw [show trkC x.trk = _ from ht.symm] at hK2
      subst hx
      exact hK2
def decT (x : TL × Int × Int) : SV := .tup [.agg (trkC x.1.trk), .int .i64 x.2.1, .int .i64 x.2.2]
theorem decE_T (B : List Int) (ρ : Names) (T : Nat → Prop) (w : World) (v : Value) (h : rel ρ T w (decE (decO B)) v) : rel ρ T w (decT (decO B)) v := by
  unfold decE at h
  unfold decT
  cases c : (decO B).2.1 != 0 with
  | false => rw [c] at h; exact h
  | true =>
    rw [c] at h
    have hz := decO_zero c
    obtain ⟨a, rfl, x, r, e1, h1, h2⟩ := h
    obtain ⟨b, rfl, h3⟩ := h1
    refine ⟨a, rfl, _, r, e1, ⟨b, rfl, ?_⟩, h2⟩
    rw [hz]
    obtain ⟨v1, l1, e1, q1, v2, l2, e2, q2, v3, l3, e3, q3, v4, l4, e4, q4, v5, l5, e5, q5, v6, l6, e6, q6, v7, l7, e7, q7, v8, l8, e8, q8, v9, l9, e9, q9, v10, l10, e10, q10, v11, l11, e11, q11, v12, l12, e12, q12, q13⟩ := h3
    exact ⟨v1, l1, e1, q1, v2, l2, e2, q2, v3, l3, e3, q3, v4, l4, e4, q4, v5, l5, e5, q5, v6, l6, e6, q6, v7, l7, e7, nils_ro q7, v8, l8, e8, nils_ro q8, v9, l9, e9, nils_ro q9, v10, l10, e10, nils_ro q10, v11, l11, e11, nils_ro q11, v12, l12, e12, nils_ro q12, q13⟩
theorem vdec_ok {B : List Int} (hn : B.length ≤ 1000000) : CallOK Tryz.prog 11 [.ro B.length 1 (bG B)] [] (decT (decO B)) [] [] :=
  callOK_val (fun ρ T w v h => decE_T B ρ T w v h) (run_ok r5 3 fun _ _ K hK => vdec_law hn K hK)
def decK (B : List Int) (d : List Nat) (σ : List (Option SB)) (K : KC) : Prop := ∀ (t : Trk) (e a : Int), IsD B t e a → K (.tup [.agg (trkC t), .int .i64 e, .int .i64 a]) σ d
def cDec : List SV → List (Option SB) → KC → Prop
  | [.ro n 1 g], [], K => bytesG n g ∧ n ≤ 1000000 ∧ decK (rowB n g) [] [] K
  | [.nils], [], K => decK [] [] [] K
  | [.own 0 0 1 n], [some (.row _ 1 m g)], K => bytesG n g ∧ n ≤ m ∧ n ≤ 1000000 ∧ decK (rowB n g) [0] [none] K
  | [.arr 0 0 0 0], [some _], K => decK [] [0] [none] K
  | _, _, _ => False
theorem vdec_row {n : Nat} {g : Nat → List SV} (h : bytesG n g) (hn : n ≤ 1000000) : CallOK Tryz.prog 11 [.ro n 1 g] [] (decT (decO (rowB n g))) [] [] := by
  have e := rowB_len' n g
  have := vdec_ok (B := rowB n g) (by omega)
  rw [e, ← h] at this
  exact this
theorem decK_ok {B : List Int} {x : TL × Int × Int} {d : List Nat} {σ : List (Option SB)} {K : KC} {xs : List SV} {σ0 : List (Option SB)} {k : FuncId} (hx : decO B = x) (hK : decK B d σ K) (h : CallOK Tryz.prog k xs σ0 (decT x) σ d) : ∃ v σ' d, K v σ' d ∧ CallOK Tryz.prog k xs σ0 v σ' d := by
  obtain ⟨x1, x2, x3⟩ := x
  exact ⟨_, _, _, hK x1.trk x2 x3 ⟨x1, hx, rfl⟩, h⟩
theorem vdec_sat (xs : List SV) (σ : List (Option SB)) : Sat Tryz.prog 11 xs σ (cDec xs σ) := by
  intro K hK
  unfold cDec at hK
  split at hK
  · exact decK_ok rfl hK.2.2 (vdec_row hK.1 hK.2.1)
  · exact decK_ok rfl hK (callOK_nil1 (vdec_ok (B := []) (by decide)))
  · rename_i n e m g
    exact decK_ok rfl hK.2.2.2 (callOK_giveRow hK.2.1 (fun i _ => ⟨rfl, by rw [hK.1]; rfl⟩) (vdec_row hK.1 hK.2.2.1))
  · exact decK_ok rfl hK (callOK_give0 (vdec_ok (B := []) (by decide)))
  · exact hK.elim
noncomputable def r6 : Know Tryz.prog := (r5).add 11 cDec vdec_sat
end Go.Proofs.YtbedljhbakdghaaGreatDoor

namespace Go.Proofs.YtbedljhbakdghaaGreatDoor
open Go.Se
set_option maxRecDepth 100000
def smR : List (Nat × Keep) := [(0, ⟨[0, 1, 4, 5], [], [], 0, []⟩)]
def smS (n m : Nat) (x y x' y' : Nat → Int) (i : Int) : St := ⟨[(0, .ro n 2 (ptsG x y)), (1, .ro m 2 (ptsG x' y')), (4, .bool false), (5, .int .i64 i)], [], 0, [], 26⟩
noncomputable abbrev smE : Env := envL smR (fun _ => 0) r6 1
noncomputable abbrev smF : Func := Tryz.f65
abbrev smP : List Nat := [1, 1, 0, 1, 0]
theorem sm_entry (n m : Nat) (x y x' y' : Nat → Int) (K : KC) : runL smR (fun _ => 0) r6 2 65 [.ro n 2 (ptsG x y), .ro m 2 (ptsG x' y')] [] K =
  (Br ((↑n : Int) != (↑m : Int)) (K (SV.bool false) [] []) (∃ q_, loopE smE (keepW smR 0) smF smP 0 0 K q_ { tmps := [(0, SV.ro n 2 (ptsG x y)), (1, SV.ro m 2 (ptsG x' y')), (4, SV.bool false), (5, SV.int .i64 0)], store := [], nxt := 0, dirty := [], nt := 26 })) := by kernel_rfl
theorem sm_round (n m : Nat) (x y x' y' : Nat → Int) (i : Nat) (K : Ex → St → Prop) : roundE smE (keepW smR 0) smF smP 0 K (smS n m x y x' y' i) =
  (Br (decide ((↑i : Int) < (↑n : Int))) (Br (decide (0 ≤ (↑i : Int)) && decide ((↑i : Int) < (↑n : Int))) (Br (decide (0 ≤ (↑i : Int)) && decide ((↑i : Int) < (↑m : Int))) (Br (!(x (↑i : Int).toNat == x' (↑i : Int).toNat && y (↑i : Int).toNat == y' (↑i : Int).toNat)) (K Ex.ret { tmps := [(0, SV.ro n 2 (ptsG x y)), (1, SV.ro m 2 (ptsG x' y')), (4, SV.bool false), (5, SV.int .i64 (↑i : Int))], store := [], nxt := 0, dirty := [], nt := 26 }) (K Ex.normal { tmps := [(0, SV.ro n 2 (ptsG x y)), (1, SV.ro m 2 (ptsG x' y')), (4, SV.bool false), (5, SV.int .i64 (IntKind.i64.wrap ((↑i : Int) + 1)))], store := [], nxt := 0, dirty := [], nt := 26 })) (False)) (False)) (K (Ex.exit 0) { tmps := [(0, SV.ro n 2 (ptsG x y)), (1, SV.ro m 2 (ptsG x' y')), (4, SV.bool false), (5, SV.int .i64 (↑i : Int))], store := [], nxt := 0, dirty := [], nt := 26 })) := by kernel_rfl
theorem sm_after (n m : Nat) (x y x' y' : Nat → Int) (i : Nat) (K : KC) : afterE smE (keepW smR 0) smF smP 0 K (.exit 0) (smS n m x y x' y' i) =
  (K (SV.bool true) [] []) := by kernel_rfl
def gsR : List (Nat × Keep) := [(0, ⟨[2, 3, 4, 5], [0, 1], [0, 1], 2, []⟩), (2, ⟨[2, 3, 4, 6], [0, 1], [0, 1], 2, []⟩), (4, ⟨[2, 3, 4, 7], [0, 1], [0, 1], 2, []⟩)]
def gsS (nt : Nat) (t u : Trk) (v : Nat) (i : Int) : St := ⟨[(2, .ptr 0 0), (3, .ptr 1 0), (4, .bool false), (v, .int .i64 i)], [(0, some (.cells 34 (trkC t))), (1, some (.cells 34 (trkC u)))], 2, [0, 1], nt⟩
noncomputable abbrev gsE : Env := envL gsR (fun _ => 0) r6 1
noncomputable abbrev gsF : Func := Tryz.f64
abbrev gsP0 : List Nat := [1, 1, 0, 1, 0]
abbrev gsP2 : List Nat := [1, 1, 1, 0, 1, 0]
abbrev gsP4 : List Nat := [1, 1, 1, 1, 0, 1, 0]
theorem gs_entry (t u : Trk) (K : KC) : runL gsR (fun _ => 0) r6 2 64 [.agg (trkC t), .agg (trkC u)] [] K =
  (Br (t.rate != u.rate) (K (SV.bool false) [] []) (Br (t.cell != u.cell) (K (SV.bool false) [] []) (Br (t.cols != u.cols) (K (SV.bool false) [] []) (Br (t.rows != u.rows) (K (SV.bool false) [] []) (Br (!(t.cx == u.cx && t.cy == u.cy)) (K (SV.bool false) [] []) (Br ((↑t.nh : Int) != (↑u.nh : Int)) (K (SV.bool false) [] []) (Br ((↑t.ng : Int) != (↑u.ng : Int)) (K (SV.bool false) [] []) (Br ((↑t.nk : Int) != (↑u.nk : Int)) (K (SV.bool false) [] []) (∃ q_, loopE gsE (keepW gsR 0) gsF gsP0 0 0 K q_ { tmps := [(2, SV.ptr 0 0), (3, SV.ptr 1 0), (4, SV.bool false), (5, SV.int .i64 0)], store := [(0, some (SB.cells 34 (trkC t))), (1, some (SB.cells 34 (trkC u)))], nxt := 2, dirty := [0, 1], nt := 122 }))))))))) := by kernel_rfl
theorem gs_r0 (t u : Trk) (i : Nat) (K : Ex → St → Prop) : roundE gsE (keepW gsR 0) gsF gsP0 0 K (gsS 122 t u 5 i) =
  (Br (decide ((↑i : Int) < (↑t.nh : Int))) (Br (decide (0 ≤ (↑i : Int)) && decide ((↑i : Int) < (↑t.nh : Int))) (Br (decide (0 ≤ (↑i : Int)) && decide ((↑i : Int) < (↑u.nh : Int))) (Br (t.h (↑i : Int).toNat != u.h (↑i : Int).toNat) (K Ex.ret { tmps := [(2, SV.ptr 0 0), (3, SV.ptr 1 0), (4, SV.bool false), (5, SV.int .i64 (↑i : Int))], store := [(0, some (SB.cells 34 (trkC t))), (1, some (SB.cells 34 (trkC u)))], nxt := 2, dirty := [0, 1], nt := 122 }) (K Ex.normal { tmps := [(2, SV.ptr 0 0), (3, SV.ptr 1 0), (4, SV.bool false), (5, SV.int .i64 (IntKind.i64.wrap ((↑i : Int) + 1)))], store := [(0, some (SB.cells 34 (trkC t))), (1, some (SB.cells 34 (trkC u)))], nxt := 2, dirty := [0, 1], nt := 122 })) (False)) (False)) (K (Ex.exit 0) { tmps := [(2, SV.ptr 0 0), (3, SV.ptr 1 0), (4, SV.bool false), (5, SV.int .i64 (↑i : Int))], store := [(0, some (SB.cells 34 (trkC t))), (1, some (SB.cells 34 (trkC u)))], nxt := 2, dirty := [0, 1], nt := 122 })) := by kernel_rfl
theorem gs_r2 (t u : Trk) (i : Nat) (K : Ex → St → Prop) : roundE gsE (keepW gsR 0) gsF gsP2 2 K (gsS 122 t u 6 i) =
  (Br (decide ((↑i : Int) < (↑t.ng : Int))) (Br (decide (0 ≤ (↑i : Int)) && decide ((↑i : Int) < (↑t.ng : Int))) (Br (decide (0 ≤ (↑i : Int)) && decide ((↑i : Int) < (↑u.ng : Int))) (Br (t.g (↑i : Int).toNat != u.g (↑i : Int).toNat) (K Ex.ret { tmps := [(2, SV.ptr 0 0), (3, SV.ptr 1 0), (4, SV.bool false), (6, SV.int .i64 (↑i : Int))], store := [(0, some (SB.cells 34 (trkC t))), (1, some (SB.cells 34 (trkC u)))], nxt := 2, dirty := [0, 1], nt := 122 }) (K Ex.normal { tmps := [(2, SV.ptr 0 0), (3, SV.ptr 1 0), (4, SV.bool false), (6, SV.int .i64 (IntKind.i64.wrap ((↑i : Int) + 1)))], store := [(0, some (SB.cells 34 (trkC t))), (1, some (SB.cells 34 (trkC u)))], nxt := 2, dirty := [0, 1], nt := 122 })) (False)) (False)) (K (Ex.exit 2) { tmps := [(2, SV.ptr 0 0), (3, SV.ptr 1 0), (4, SV.bool false), (6, SV.int .i64 (↑i : Int))], store := [(0, some (SB.cells 34 (trkC t))), (1, some (SB.cells 34 (trkC u)))], nxt := 2, dirty := [0, 1], nt := 122 })) := by kernel_rfl
theorem gs_r4 (t u : Trk) (i : Nat) (K : Ex → St → Prop) : roundE gsE (keepW gsR 0) gsF gsP4 4 K (gsS 122 t u 7 i) =
  (Br (decide ((↑i : Int) < (↑t.nk : Int))) (Br (decide (0 ≤ (↑i : Int)) && decide ((↑i : Int) < (↑t.nk : Int))) (Br (decide (0 ≤ (↑i : Int)) && decide ((↑i : Int) < (↑u.nk : Int))) (Br (!(t.kg (↑i : Int).toNat == u.kg (↑i : Int).toNat && (t.kd (↑i : Int).toNat == u.kd (↑i : Int).toNat && t.ko (↑i : Int).toNat == u.ko (↑i : Int).toNat))) (K Ex.ret { tmps := [(2, SV.ptr 0 0), (3, SV.ptr 1 0), (4, SV.bool false), (7, SV.int .i64 (↑i : Int))], store := [(0, some (SB.cells 34 (trkC t))), (1, some (SB.cells 34 (trkC u)))], nxt := 2, dirty := [0, 1], nt := 122 }) (K Ex.normal { tmps := [(2, SV.ptr 0 0), (3, SV.ptr 1 0), (4, SV.bool false), (7, SV.int .i64 (IntKind.i64.wrap ((↑i : Int) + 1)))], store := [(0, some (SB.cells 34 (trkC t))), (1, some (SB.cells 34 (trkC u)))], nxt := 2, dirty := [0, 1], nt := 122 })) (False)) (False)) (K (Ex.exit 4) { tmps := [(2, SV.ptr 0 0), (3, SV.ptr 1 0), (4, SV.bool false), (7, SV.int .i64 (↑i : Int))], store := [(0, some (SB.cells 34 (trkC t))), (1, some (SB.cells 34 (trkC u)))], nxt := 2, dirty := [0, 1], nt := 122 })) := by kernel_rfl
theorem gs_a0 (t u : Trk) (i : Nat) (K : KC) : afterE gsE (keepW gsR 0) gsF gsP0 0 K (.exit 0) (gsS 122 t u 5 i) =
  (∃ q_, loopE gsE (keepW gsR 0) gsF gsP2 2 0 K q_ { tmps := [(2, SV.ptr 0 0), (3, SV.ptr 1 0), (4, SV.bool false), (6, SV.int .i64 0)], store := [(0, some (SB.cells 34 (trkC t))), (1, some (SB.cells 34 (trkC u)))], nxt := 2, dirty := [0, 1], nt := 122 }) := by kernel_rfl
theorem gs_a2 (t u : Trk) (i : Nat) (K : KC) : afterE gsE (keepW gsR 0) gsF gsP2 0 K (.exit 2) (gsS 122 t u 6 i) =
  (∃ q_, loopE gsE (keepW gsR 0) gsF gsP4 4 0 K q_ { tmps := [(2, SV.ptr 0 0), (3, SV.ptr 1 0), (4, SV.bool false), (7, SV.int .i64 0)], store := [(0, some (SB.cells 34 (trkC t))), (1, some (SB.cells 34 (trkC u)))], nxt := 2, dirty := [0, 1], nt := 122 }) := by kernel_rfl
theorem gs_a4 (t u : Trk) (i : Nat) (K : KC) : afterE gsE (keepW gsR 0) gsF gsP4 0 K (.exit 4) (gsS 122 t u 7 i) =
  (K (SV.bool true) [] []) := by kernel_rfl
theorem sm_law {n m : Nat} {x y x' y' : Nat → Int} (hm : n = m) (h : ∀ i, i < n → x i = x' i ∧ y i = y' i) (hn : n < 9223372036854775808) (K : KC) (hK : K (.bool true) [] []) : runL smR (fun _ => 0) r6 2 65 [.ro n 2 (ptsG x y), .ro m 2 (ptsG x' y')] [] K := by
  rw [sm_entry, nn_f hm]
  refine ⟨n + 1, loop_up (fun i : Nat => smS n m x y x' y' i) n (fun _ => True) (fun i hi _ X hX => ?_) (fun _ X => ?_) trivial⟩
  · rw [sm_round, wi64_succ hi hn]
    obtain ⟨h1, h2⟩ := h i hi
    exact sm_step hi hm (no_t (by simp [h1, h2])) (hX trivial)
  · rw [sm_round]
    refine Br.of (fun c => lt_t c) fun _ => ?_
    show afterE smE (keepW smR 0) smF smP 0 K (.exit 0) (smS n m x y x' y' n)
    rw [sm_after]; exact hK
def cSamePts : List SV → List (Option SB) → KC → Prop
  | [.ro n 2 g, .ro m 2 h], [], K => pts g ∧ pts h ∧ (n = m ∧ ∀ i, i < n → px (g i) = px (h i) ∧ py (g i) = py (h i)) ∧ K (.bool true) [] []
  | _, _, _ => False
theorem samePts_sat (xs : List SV) (σ : List (Option SB)) : Sat Tryz.prog 65 xs σ (cSamePts xs σ) := by
  intro K hK
  unfold cSamePts at hK
  split at hK
  · obtain ⟨h1, h2, ⟨h3, h4⟩, hK⟩ := hK
    refine ⟨_, _, _, hK, ?_⟩
    rw [pts_eq h1, pts_eq h2]
    exact runL_ok smR (fun _ => 0) r6 2 (fun p hp => by cases hp) fun h5 _ K hK => sm_law h3 h4 h5.1.1 K (hK _ fun _ h => h)
  · exact hK.elim
theorem gs_law {t u : Trk} (h : sameT t u) (n1 : t.nh < 9223372036854775808) (n2 : t.ng < 9223372036854775808) (n3 : t.nk < 9223372036854775808) (K : KC) (hK : K (.bool true) [] []) : runL gsR (fun _ => 0) r6 2 64 [.agg (trkC t), .agg (trkC u)] [] K := by
  obtain ⟨⟨a1, a2, a3, a4, a5, a6, a7, a8, a9⟩, b1, b2, b3, _⟩ := h
  rw [gs_entry, ne_f a1, ne_f a2, ne_f a3, ne_f a4, show (!(t.cx == u.cx && t.cy == u.cy)) = false from no_t (by simp [a5, a6]), nn_f a7, nn_f a8, nn_f a9]
  refine ⟨t.nh + 1, loop_up (fun i : Nat => gsS 122 t u 5 i) t.nh (fun _ => True) (fun i hi _ X hX => ?_) (fun _ X => ?_) trivial⟩
  · rw [gs_r0, wi64_succ hi n1]
    exact sm_step hi a7 (ne_f (b1 i hi)) (hX trivial)
  rw [gs_r0]
  refine Br.of (fun c => lt_t c) fun _ => ?_
  show afterE gsE (keepW gsR 0) gsF gsP0 0 K (.exit 0) (gsS 122 t u 5 t.nh)
  rw [gs_a0]
  refine ⟨t.ng + 1, loop_up (fun i : Nat => gsS 122 t u 6 i) t.ng (fun _ => True) (fun i hi _ X hX => ?_) (fun _ X => ?_) trivial⟩
  · rw [gs_r2, wi64_succ hi n2]
    exact sm_step hi a8 (ne_f (b2 i hi)) (hX trivial)
  rw [gs_r2]
  refine Br.of (fun c => lt_t c) fun _ => ?_
  show afterE gsE (keepW gsR 0) gsF gsP2 0 K (.exit 2) (gsS 122 t u 6 t.ng)
  rw [gs_a2]
  refine ⟨t.nk + 1, loop_up (fun i : Nat => gsS 122 t u 7 i) t.nk (fun _ => True) (fun i hi _ X hX => ?_) (fun _ X => ?_) trivial⟩
  · rw [gs_r4, wi64_succ hi n3]
    obtain ⟨c1, c2, c3⟩ := b3 i hi
    exact sm_step hi a9 (no_t (by simp [c1, c2, c3])) (hX trivial)
  rw [gs_r4]
  refine Br.of (fun c => lt_t c) fun _ => ?_
  show afterE gsE (keepW gsR 0) gsF gsP4 0 K (.exit 4) (gsS 122 t u 7 t.nk)
  rw [gs_a4]; exact hK
theorem grounds_sat (xs : List SV) (σ : List (Option SB)) : Sat Tryz.prog 64 xs σ (cSame2 xs σ) :=
  cSame2_sat (fun _ _ h => runL_ok gsR (fun _ => 0) r6 2 (fun p hp => by cases hp) fun h5 _ K hK => gs_law h (trk_ok h5.1).1 (trk_ok h5.1).2.1 (trk_ok h5.1).2.2.1 K (hK _ fun _ h => h)) xs σ
noncomputable def r7 : Know Tryz.prog := ((r6).add 65 cSamePts samePts_sat).add 64 cSame2 grounds_sat
def saR : List (Nat × Keep) := [(0, ⟨[2, 3, 4, 5], [0, 1], [0, 1], 2, []⟩), (2, ⟨[2, 3, 4, 6], [0, 1], [0, 1], 2, []⟩)]
noncomputable abbrev saE : Env := envL saR (fun _ => 0) r7 1
noncomputable abbrev saF : Func := Tryz.f13
abbrev saP0 : List Nat := [1, 1, 0, 1, 0]
abbrev saP2 : List Nat := [1, 1, 1, 0, 1, 0]
theorem sa_entry (t u : Trk) (K : KC) : runL saR (fun _ => 0) r7 2 13 [.agg (trkC t), .agg (trkC u)] [] K =
  ((trkS (oneG t.h) (oneG t.g) (kindG t) (ptsG t.lx t.ly) (railG t) (gateG t)) ∧ ((trkS (oneG u.h) (oneG u.g) (kindG u) (ptsG u.lx u.ly) (railG u) (gateG u)) ∧ ((sameT t u) ∧ ((pts (ptsG t.lx t.ly)) ∧ ((pts (ptsG u.lx u.ly)) ∧ ((t.nl = u.nl ∧ ∀ (i : Nat), i < t.nl → px (ptsG t.lx t.ly i) = px (ptsG u.lx u.ly i) ∧ py (ptsG t.lx t.ly i) = py (ptsG u.lx u.ly i)) ∧ (Br ((↑t.nr : Int) != (↑u.nr : Int)) (K (SV.bool false) [] []) (Br ((↑t.nt : Int) != (↑u.nt : Int)) (K (SV.bool false) [] []) (Br (!(t.sx == u.sx && t.sy == u.sy)) (K (SV.bool false) [] []) (Br (t.head != u.head) (K (SV.bool false) [] []) (Br (t.laps != u.laps) (K (SV.bool false) [] []) (∃ q_, loopE saE (keepW saR 0) saF saP0 0 0 K q_ { tmps := [(2, SV.ptr 0 0), (3, SV.ptr 1 0), (4, SV.bool false), (5, SV.int .i64 0)], store := [(0, some (SB.cells 34 (trkC t))), (1, some (SB.cells 34 (trkC u)))], nxt := 2, dirty := [0, 1], nt := 95 })))))))))))) := by kernel_rfl
theorem sa_r0 (t u : Trk) (i : Nat) (K : Ex → St → Prop) : roundE saE (keepW saR 0) saF saP0 0 K (gsS 95 t u 5 i) =
  (Br (decide ((↑i : Int) < (↑t.nr : Int))) (Br (decide (0 ≤ (↑i : Int)) && decide ((↑i : Int) < (↑t.nr : Int))) (Br (decide (0 ≤ (↑i : Int)) && decide ((↑i : Int) < (↑u.nr : Int))) ((pts (ptsG (t.rx (↑i : Int).toNat) (t.ry (↑i : Int).toNat))) ∧ ((pts (ptsG (u.rx (↑i : Int).toNat) (u.ry (↑i : Int).toNat))) ∧ ((t.rn (↑i : Int).toNat = u.rn (↑i : Int).toNat ∧ ∀ (i_1 : Nat), i_1 < t.rn (↑i : Int).toNat → px (ptsG (t.rx (↑i : Int).toNat) (t.ry (↑i : Int).toNat) i_1) = px (ptsG (u.rx (↑i : Int).toNat) (u.ry (↑i : Int).toNat) i_1) ∧ py (ptsG (t.rx (↑i : Int).toNat) (t.ry (↑i : Int).toNat) i_1) = py (ptsG (u.rx (↑i : Int).toNat) (u.ry (↑i : Int).toNat) i_1)) ∧ (K Ex.normal { tmps := [(2, SV.ptr 0 0), (3, SV.ptr 1 0), (4, SV.bool false), (5, SV.int .i64 (IntKind.i64.wrap ((↑i : Int) + 1)))], store := [(0, some (SB.cells 34 (trkC t))), (1, some (SB.cells 34 (trkC u)))], nxt := 2, dirty := [0, 1], nt := 95 })))) (False)) (False)) (K (Ex.exit 0) { tmps := [(2, SV.ptr 0 0), (3, SV.ptr 1 0), (4, SV.bool false), (5, SV.int .i64 (↑i : Int))], store := [(0, some (SB.cells 34 (trkC t))), (1, some (SB.cells 34 (trkC u)))], nxt := 2, dirty := [0, 1], nt := 95 })) := by kernel_rfl
theorem sa_r2 (t u : Trk) (i : Nat) (K : Ex → St → Prop) : roundE saE (keepW saR 0) saF saP2 2 K (gsS 95 t u 6 i) =
  (Br (decide ((↑i : Int) < (↑t.nt : Int))) (Br (decide (0 ≤ (↑i : Int)) && decide ((↑i : Int) < (↑t.nt : Int))) (Br (decide (0 ≤ (↑i : Int)) && decide ((↑i : Int) < (↑u.nt : Int))) (Br (!(t.ax (↑i : Int).toNat == u.ax (↑i : Int).toNat && t.ay (↑i : Int).toNat == u.ay (↑i : Int).toNat && (t.bx (↑i : Int).toNat == u.bx (↑i : Int).toNat && t.sb (↑i : Int).toNat == u.sb (↑i : Int).toNat && t.sp (↑i : Int).toNat == u.sp (↑i : Int).toNat))) (K Ex.ret { tmps := [(2, SV.ptr 0 0), (3, SV.ptr 1 0), (4, SV.bool false), (6, SV.int .i64 (↑i : Int))], store := [(0, some (SB.cells 34 (trkC t))), (1, some (SB.cells 34 (trkC u)))], nxt := 2, dirty := [0, 1], nt := 95 }) (K Ex.normal { tmps := [(2, SV.ptr 0 0), (3, SV.ptr 1 0), (4, SV.bool false), (6, SV.int .i64 (IntKind.i64.wrap ((↑i : Int) + 1)))], store := [(0, some (SB.cells 34 (trkC t))), (1, some (SB.cells 34 (trkC u)))], nxt := 2, dirty := [0, 1], nt := 95 })) (False)) (False)) (K (Ex.exit 2) { tmps := [(2, SV.ptr 0 0), (3, SV.ptr 1 0), (4, SV.bool false), (6, SV.int .i64 (↑i : Int))], store := [(0, some (SB.cells 34 (trkC t))), (1, some (SB.cells 34 (trkC u)))], nxt := 2, dirty := [0, 1], nt := 95 })) := by kernel_rfl
theorem sa_a0 (t u : Trk) (i : Nat) (K : KC) : afterE saE (keepW saR 0) saF saP0 0 K (.exit 0) (gsS 95 t u 5 i) =
  (∃ q_, loopE saE (keepW saR 0) saF saP2 2 0 K q_ { tmps := [(2, SV.ptr 0 0), (3, SV.ptr 1 0), (4, SV.bool false), (6, SV.int .i64 0)], store := [(0, some (SB.cells 34 (trkC t))), (1, some (SB.cells 34 (trkC u)))], nxt := 2, dirty := [0, 1], nt := 95 }) := by kernel_rfl
theorem sa_a2 (t u : Trk) (i : Nat) (K : KC) : afterE saE (keepW saR 0) saF saP2 0 K (.exit 2) (gsS 95 t u 6 i) =
  (K (SV.bool true) [] []) := by kernel_rfl
theorem sm_step2 {i n m : Nat} (hi : i < n) (hm : n = m) {N X : Prop} (h : N) :
    Br (decide ((i : Int) < (n : Int))) (Br (decide (0 ≤ (i : Int)) && decide ((i : Int) < (n : Int))) (Br (decide (0 ≤ (i : Int)) && decide ((i : Int) < (m : Int))) N False) False) X := by
  subst hm
  exact Br.of (fun _ => Br.of (fun _ => Br.of (fun _ => h) fun c => in_f hi c) fun c => in_f hi c) fun c => lt_f hi c
theorem sa_law {t u : Trk} (h : sameT t u) (n1 : t.nr < 9223372036854775808) (n2 : t.nt < 9223372036854775808) (K : KC) (hK : K (.bool true) [] []) : runL saR (fun _ => 0) r7 2 13 [.agg (trkC t), .agg (trkC u)] [] K := by
  have h0 := h
  obtain ⟨_, _, _, _, ⟨c1, c2⟩, ⟨d1, d2⟩, ⟨e1, e2⟩, f1, f2, f3, f4⟩ := h
  rw [sa_entry, nn_f d1, nn_f e1, show (!(t.sx == u.sx && t.sy == u.sy)) = false from no_t (by simp [f1, f2]), ne_f f3, ne_f f4]
  refine ⟨trkS_of t, trkS_of u, h0, fun _ => rfl, fun _ => rfl, ⟨c1, c2⟩, ?_⟩
  refine ⟨t.nr + 1, loop_up (fun i : Nat => gsS 95 t u 5 i) t.nr (fun _ => True) (fun i hi _ X hX => ?_) (fun _ X => ?_) trivial⟩
  · rw [sa_r0, wi64_succ hi n1]
    exact sm_step2 hi d1 ⟨fun _ => rfl, fun _ => rfl, d2 i hi, hX trivial⟩
  rw [sa_r0]
  refine Br.of (fun c => lt_t c) fun _ => ?_
  show afterE saE (keepW saR 0) saF saP0 0 K (.exit 0) (gsS 95 t u 5 t.nr)
  rw [sa_a0]
  refine ⟨t.nt + 1, loop_up (fun i : Nat => gsS 95 t u 6 i) t.nt (fun _ => True) (fun i hi _ X hX => ?_) (fun _ X => ?_) trivial⟩
  · rw [sa_r2, wi64_succ hi n2]
    obtain ⟨g1, g2, g3, g4, g5⟩ := e2 i hi
    exact sm_step hi e1 (no_t (by simp [g1, g2, g3, g4, g5])) (hX trivial)
  rw [sa_r2]
  refine Br.of (fun c => lt_t c) fun _ => ?_
  show afterE saE (keepW saR 0) saF saP2 0 K (.exit 2) (gsS 95 t u 6 t.nt)
  rw [sa_a2]; exact hK
theorem same_ok {t u : Trk} (h : sameT t u) : CallOK Tryz.prog 13 [.agg (trkC t), .agg (trkC u)] [] (.bool true) [] [] :=
  runL_ok saR (fun _ => 0) r7 2 (fun p hp => by cases hp) fun h5 _ K hK => sa_law h (trk_ok h5.1).2.2.2.2.1 (trk_ok h5.1).2.2.2.2.2 K (hK _ fun _ h => h)
theorem same_sat (xs : List SV) (σ : List (Option SB)) : Sat Tryz.prog 13 xs σ (cSame2 xs σ) :=
  cSame2_sat (fun _ _ h => same_ok h) xs σ
noncomputable def r8 : Know Tryz.prog := (r7).add 13 cSame2 same_sat
end Go.Proofs.YtbedljhbakdghaaGreatDoor

