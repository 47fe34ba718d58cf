/- Part 15: functions. -/
import Derived.Test.YtheedafdaolooaaSeCode
namespace Go.Se
variable {P : Program}

theorem get_params : ∀ (xs : List SV) (i t : Nat), get (params xs i) t = if h : i ≤ t ∧ t - i < xs.length then xs[t - i]'h.2 else .junk
  | [], i, t => by simp [params, get]
  | x :: xs, i, t => by
    simp only [params, get]
    by_cases e : i = t
    · subst e; simp
    · have hb : Nat.beq i t = false := by rw [Bool.eq_false_iff]; intro h; exact e (Nat.eq_of_beq_eq_true h)
      rw [hb, cond_false, get_params xs (i + 1) t]
      by_cases h : i + 1 ≤ t ∧ t - (i + 1) < xs.length
      · rw [dif_pos h, dif_pos ⟨by omega, by simp; omega⟩]
        have : t - i = (t - (i + 1)) + 1 := by omega
        simp [this]
      · rw [dif_neg h, dif_neg]
        rintro ⟨h1, h2⟩
        simp only [List.length_cons] at h2
        exact h ⟨by omega, by omega⟩

theorem look_stores : ∀ (σ : List (Option SB)) (i t : Nat), look (stores σ i) t = if h : i ≤ t ∧ t - i < σ.length then σ[t - i]'h.2 else none
  | [], i, t => by simp [stores, look]
  | x :: xs, i, t => by
    simp only [stores, look]
    by_cases e : i = t
    · subst e; simp
    · have hb : Nat.beq i t = false := by rw [Bool.eq_false_iff]; intro h; exact e (Nat.eq_of_beq_eq_true h)
      rw [hb, cond_false, look_stores xs (i + 1) t]
      by_cases h : i + 1 ≤ t ∧ t - (i + 1) < xs.length
      · rw [dif_pos h, dif_pos ⟨by omega, by simp; omega⟩]
        have : t - i = (t - (i + 1)) + 1 := by omega
        simp [this]
      · rw [dif_neg h, dif_neg]
        rintro ⟨h1, h2⟩
        simp only [List.length_cons] at h2
        exact h ⟨by omega, by omega⟩

theorem upto_get : ∀ (n i : Nat), (upto n)[i]? = if i < n then some i else none
  | 0, i => by simp [upto]
  | n + 1, i => by
    have hlen : (upto n).length = n := by
      have := fun j => upto_get n j
      rcases Nat.lt_trichotomy (upto n).length n with h | h | h
      · have h1 := this (upto n).length
        rw [if_pos h] at h1
        simp at h1
      · exact h
      · have h1 := this n
        rw [if_neg (Nat.lt_irrefl _), List.getElem?_eq_getElem h] at h1
        cases h1
    simp only [upto]
    rcases Nat.lt_trichotomy i n with h | h | h
    · rw [List.getElem?_append_left (by omega), upto_get n i, if_pos h, if_pos (by omega)]
    · subst h
      rw [List.getElem?_append_right (by omega), hlen]; simp
    · rw [List.getElem?_append_right (by omega), hlen, if_neg (by omega)]
      have : i - n ≠ 0 := by omega
      rw [List.getElem?_eq_none (by simp; omega)]

theorem upto_len (n : Nat) : (upto n).length = n := by
  rcases Nat.lt_trichotomy (upto n).length n with h | h | h
  · have h1 := upto_get n (upto n).length
    rw [if_pos h] at h1
    simp at h1
  · exact h
  · have h1 := upto_get n n
    rw [if_neg (Nat.lt_irrefl _), List.getElem?_eq_getElem h] at h1
    cases h1

theorem resultE_ok {env : Env} (he : EnvOK P env) {st : St} {r : ResultVar} {v : SV} (h : resultE env st r = some v) {B : Base} {A : Nat → Prop} {D : List Nat} {nt : Nat} {a : Act} {w : World}
    {ρ : Names} {T : Nat → Prop} (hh : Holds B (get st.tmps) (look st.store) A D nt a w ρ T) :
    ∃ y, ((match r with | .tmp t => Pure.pure (a.tmps.getD t undef) | .cell x t => (do loadVar t (← asAddr (a.tmps.getD x undef)))) : Sem Value).run P w = .ok y w ∧ rel ρ T w v y := by
  cases r with
  | tmp t =>
    simp only [resultE, Option.some.injEq] at h
    subst h
    exact ⟨_, rfl, hh.tmps t⟩
  | cell x t =>
    simp only [resultE] at h
    split at h
    · rename_i ti id off ht hx
      split at h
      · rename_i e cs hl
        have h1 := hh.tmps x
        rw [hx] at h1
        obtain ⟨b, h2, h3⟩ := h1
        obtain ⟨_, b', h4, h5, vs, h6, h7⟩ := hh.store id _ hl
        rw [h2] at h4; cases h4
        obtain ⟨y, h8, h9⟩ := run_loadVar (he.tt _ _ ht) h6 h7 h
        refine ⟨y, ?_, h9⟩
        simp only [Sem.run_bind, h3, asAddr, Sem.run_pure, Result.andThen_ok, h8]
      · cases h
    · cases h

theorem resultsE_ok {env : Env} (he : EnvOK P env) {st : St} {B : Base} {A : Nat → Prop} {D : List Nat} {nt : Nat} {a : Act} {w : World}
    {ρ : Names} {T : Nat → Prop} (hh : Holds B (get st.tmps) (look st.store) A D nt a w ρ T) : ∀ (rs : List ResultVar) (vs : List SV), resultsE env st rs = some vs →
    ∃ ys, (rs.mapM fun r => ((match r with | .tmp t => Pure.pure (a.tmps.getD t undef) | .cell x t => (do loadVar t (← asAddr (a.tmps.getD x undef)))) : Sem Value)).run P w = .ok ys w ∧ relL ρ T w vs ys
  | [], vs, h => by
    simp only [resultsE, Option.some.injEq] at h
    subst h
    exact ⟨[], rfl, rfl⟩
  | r :: rs, vs, h => by
    simp only [resultsE] at h
    split at h
    · rename_i v vs' hv hvs
      cases h
      obtain ⟨y, h1, h2⟩ := resultE_ok he hv hh
      obtain ⟨ys, h3, h4⟩ := resultsE_ok he hh rs vs' hvs
      refine ⟨y :: ys, ?_, y, ys, rfl, h2, h4⟩
      rw [List.mapM_cons]
      simp only [Sem.run_bind, h1, Result.andThen_ok, h3, Sem.run_pure]
    · cases h

theorem results_ok {env : Env} (he : EnvOK P env) {st : St} {fn : Func} {vs : List SV} (h : resultsE env st fn.results.toList = some vs) {B : Base} {A : Nat → Prop} {D : List Nat} {nt : Nat} {a : Act} {w : World}
    {ρ : Names} {T : Nat → Prop} (hh : Holds B (get st.tmps) (look st.store) A D nt a w ρ T) :
    ∃ y, (results fn a.tmps).run P w = .ok y w ∧ rel ρ T w (tupled vs) y := by
  obtain ⟨ys, h1, h2⟩ := resultsE_ok he hh _ _ h
  refine ⟨if hs : ys.toArray.size = 1 then ys.toArray[0] else .tuple ys.toArray, ?_, ?_⟩
  · unfold results
    rw [Sem.run_bind]
    have : (fn.results.mapM fun r => ((match r with | .tmp t => Pure.pure (a.tmps.getD t undef) | .cell x t => (do loadVar t (← asAddr (a.tmps.getD x undef)))) : Sem Value)).run P w = .ok ys.toArray w := by
      rw [← Array.toArray_toList (xs := fn.results), List.mapM_toArray]
      simp only [Sem.run_map, h1, Result.andThen_ok]
    exact congrArg (fun r : Result (Array Value) => r.andThen fun b w' => Sem.run P (Pure.pure (if h : b.size = 1 then b[0] else Value.tuple b) : Sem Value) w') this
  · have hl := relL_len h2
    match vs, h2, hl with
    | [v], h2, _ =>
      obtain ⟨y, r, h3, h4, h5⟩ := h2
      have h5' : r = [] := h5
      subst h5'
      subst h3
      simpa [tupled] using h4
    | [], h2, hl =>
      rw [dif_neg (by simp at hl ⊢; omega)]
      exact ⟨ys.toArray, rfl, by simpa using h2⟩
    | _ :: _ :: _, h2, hl =>
      rw [dif_neg (by simp at hl ⊢; omega)]
      exact ⟨ys.toArray, rfl, by simpa using h2⟩

theorem evalFn_sat {env : Env} (he : EnvOK P env) (hmix : P.follows .mixedOrders = true) {W : Nat → Nat → St → Option St} (hW : ∀ n, Weaker n (W n)) {k : FuncId} {fn : Func} (hf : P.funcs[k]? = some fn)
    (hname : (fn.name == "runtime.NumGoroutine") = false) (xs : List SV) (σ : List (Option SB)) : Sat P k xs σ (evalFn env W fn xs σ) := by
  intro K h
  unfold evalFn at h
  split at h
  · exact h.elim
  · rename_i c hbody
    obtain ⟨x, st, hx, hgo⟩ := evalCode_ok he hmix (hW σ.length) c _ _ _ h
    have hfin : finish env σ.length fn.results.toList K st ∧ (exOf x = .normal ∨ exOf x = .ret) := by
      cases x with
      | normal => exact ⟨hx, .inl rfl⟩
      | exit i => exact hx.elim
      | ret => exact ⟨hx, .inr rfl⟩
    obtain ⟨hfin, hex⟩ := hfin
    unfold finish at hfin
    split at hfin
    · exact hfin.elim
    · rename_i vs hvs
      simp only at hfin
      generalize hv : tupled vs = v at hfin
      obtain ⟨hnd, halive⟩ := reach_ok (s := st.store) 200 (upto σ.length ++ ids v) [] List.nodup_nil (by simp)
      generalize hF : reach st.store 200 (upto σ.length ++ ids v) [] = F at hfin hnd halive
      generalize hG : upto σ.length ++ F.filter (fun i => Nat.ble σ.length i) = G at hfin
      refine ⟨ren (fun i => idx G i 0) v, G.map fun i => (look st.store i).map (renB fun i => idx G i 0), st.dirty.filter fun i => Nat.blt i σ.length, hfin, ?_⟩
      intro ρ T w vals hvals hstore hinj hnames
      let B : Base := ⟨w, ρ, T, σ.length⟩
      have hlen := relL_len hvals
      have hlen' : xs.length = vals.size := by simpa using hlen
      have hstart : Now B ⟨params xs 0, stores σ 0, σ.length, [], xs.length + (fn.ntmps - xs.length)⟩ { tmps := vals ++ Array.replicate (fn.ntmps - vals.size) undef, defers := [] } w := by
        refine ⟨Nat.le_refl _, ρ, T, ?_⟩
        exact {
          defers := rfl
          size := by simp [hlen']
          tmps := fun t => by
            rw [get_params]
            split
            · rename_i ht
              simp only [Nat.sub_zero] at ht ⊢
              obtain ⟨y, hy1, hy2⟩ := relL_get t hvals (List.getElem?_eq_getElem ht.2)
              have : (vals ++ Array.replicate (fn.ntmps - vals.size) undef).getD t undef = y := by
                rw [Array.getD_eq_getD_getElem?, Array.getElem?_append_left (by omega)]
                rw [Array.getElem?_toList] at hy1
                rw [hy1]; rfl
              rw [this]; exact hy2
            · trivial
          store := fun id sb hid => by
            rw [look_stores] at hid
            split at hid
            · rename_i ht
              simp only [Nat.sub_zero] at ht hid
              obtain ⟨sb', b, h1, h2, h3, h4⟩ := hstore id ht.2
              rw [List.getElem?_eq_getElem ht.2, hid] at h1
              cases h1
              exact ⟨ht.2, b, h2, h3, h4⟩
            · cases hid
          names := hnames
          inj := fun i j b _ _ h1 h2 => hinj i j b h1 h2
          base := fun _ h => h
          full := fun p hp => by obtain ⟨_, b, _, h2, _⟩ := hstore p hp; exact ⟨b, h2⟩
          grow := Grow.refl _ _
          old := fun p b hp => ⟨(hnames p b hp).1, hp⟩
          tback := fun _ _ h => h
          tkeep := fun _ _ h => .inl h
          fresh := fun id b hid hn _ => by
            exfalso
            rw [look_stores] at hid
            split at hid
            · rename_i ht; simp only [Nat.sub_zero] at ht; exact absurd hn (Nat.not_le.2 ht.2)
            · cases hid }
      have hwp := hgo B _ w rfl hstart
      left
      refine ⟨fn, hf, by rw [hbody]; rfl, hname, calls_of_wp hf hbody (wp_mono hwp ?_)⟩
      rintro e a' w' ⟨rfl, hB', ρ', T', hh⟩
      obtain ⟨y, hy1, hy2⟩ := results_ok he hvs hh
      rw [hv] at hy2
      have hup := upto_len σ.length
      have hGlt : ∀ p, p < σ.length → G[p]? = some p := by
        intro p hp
        rw [← hG, List.getElem?_append_left (by omega), upto_get, if_pos hp]
      have hGge : ∀ p i, σ.length ≤ p → G[p]? = some i → (F.filter fun i => Nat.ble σ.length i)[p - σ.length]? = some i := by
        intro p i hp hi
        rw [← hG, List.getElem?_append_right (by omega), hup] at hi
        exact hi
      have hGlen : σ.length ≤ G.length := by rw [← hG, List.length_append]; omega
      let ρ2 : Names := fun p => (G[p]?).bind ρ'
      have hren : ∀ i j b, (fun i => idx G i 0) i = some j → ρ' i = some b → ρ2 j = some b := by
        intro i j b hi hb
        obtain ⟨_, hj⟩ := idx_some hi
        rw [Nat.sub_zero] at hj
        show (G[j]?).bind ρ' = some b
        rw [hj]; exact hb
      have hdead : ∀ q, q ∈ st.dirty → q < σ.length → look st.store q = none →
          q ∈ (st.dirty.filter fun i => Nat.blt i σ.length) ∧ (G.map fun i => (look st.store i).map (renB fun i => idx G i 0))[q]? = some none := by
        intro q h1 h2 h3
        refine ⟨List.mem_filter.2 ⟨h1, by simpa using h2⟩, ?_⟩
        rw [List.getElem?_map, hGlt q h2, Option.map_some, h3]; rfl
      have hdone : CallDone ρ T w σ (ren (fun i => idx G i 0) v) (G.map fun i => (look st.store i).map (renB fun i => idx G i 0)) (st.dirty.filter fun i => Nat.blt i σ.length) ρ2 T' w' y := by
        refine {
          names := fun p b hp => ?_
          only := fun p b hp => ?_
          len := by simpa using hGlen
          val := rel_ren hren _ _ hy2
          store := fun p sb hp => ?_
          fresh := fun p b hp hb => ?_
          inj := fun p q b hp hq h1 h2 => ?_
          dirty := fun p hp => by simpa using (List.mem_filter.1 hp).2
          grow := hh.grow.mono fun b _ ⟨p, h1, h2, h3⟩ => ⟨p, List.mem_filter.2 ⟨h1, by simpa using h2⟩, h3⟩
          tback := hh.tback
          below := fun p b hp => ?_
          tkeep := fun b hb hT => ?_ }
        · have h1 := hh.old p b hp
          show (G[p]?).bind ρ' = some b
          rw [hGlt p h1.1]; exact h1.2
        · obtain ⟨i, hi, _⟩ := Option.bind_eq_some_iff.1 hp
          have := (List.getElem?_eq_some_iff.1 hi).1
          simpa using this
        · rw [List.getElem?_map] at hp
          cases hi : G[p]? with
          | none => rw [hi] at hp; cases hp
          | some i =>
            rw [hi, Option.map_some, Option.some.injEq] at hp
            cases hl : look st.store i with
            | none => rw [hl] at hp; cases hp
            | some sb0 =>
              rw [hl, Option.map_some, Option.some.injEq] at hp
              subst hp
              obtain ⟨_, b, h1, h2, h3⟩ := hh.store i sb0 hl
              exact ⟨b, by show (G[p]?).bind ρ' = some b; rw [hi]; exact h1, h2, relB_ren hren h3⟩
        · obtain ⟨i, hi, hib⟩ := Option.bind_eq_some_iff.1 hb
          have h1 := List.mem_of_getElem? (hGge p i hp hi)
          obtain ⟨h2, h3⟩ := List.mem_filter.1 h1
          obtain ⟨sb, hsb⟩ := halive i h2
          rcases hh.fresh i b (by rw [hsb]; rfl) (Nat.le_of_ble_eq_true h3) hib with h4 | ⟨q, h4, h5, h6, h7⟩
          · exact .inl h4
          · obtain ⟨h8, h9⟩ := hdead q h4 h5 h6
            exact .inr ⟨q, h8, h9, h7⟩
        · obtain ⟨i, hi, hib⟩ := Option.bind_eq_some_iff.1 h1
          obtain ⟨j, hj, hjb⟩ := Option.bind_eq_some_iff.1 h2
          have hi' := hGge p i hp hi
          have hj' := hGge q j hq hj
          obtain ⟨si, hsi⟩ := halive i (List.mem_filter.1 (List.mem_of_getElem? hi')).1
          obtain ⟨sj, hsj⟩ := halive j (List.mem_filter.1 (List.mem_of_getElem? hj')).1
          have hij := hh.inj i j b (by rw [hsi]; rfl) (by rw [hsj]; rfl) hib hjb
          subst hij
          obtain ⟨l1, e1⟩ := List.getElem?_eq_some_iff.1 hi'
          obtain ⟨l2, e2⟩ := List.getElem?_eq_some_iff.1 hj'
          have := nodup_inj (hnd.filter _) l1 l2 (e1.trans e2.symm)
          omega
        · obtain ⟨i, hi, hib⟩ := Option.bind_eq_some_iff.1 hp
          exact (hh.names i b hib).2
        · rcases hh.tkeep b hb hT with h1 | ⟨q, h1, h2, h3, h4⟩
          · exact .inl h1
          · obtain ⟨h5, h6⟩ := hdead q h1 h2 h3
            exact .inr ⟨q, h5, h6, h4⟩
      have hpost : a'.defers = [] ∧ ∃ v, (results fn a'.tmps).run P w' = .ok v w' ∧ (∃ x, Ending.returned v = .returned x ∧ ∃ ρ2 T2, CallDone ρ T w σ (ren (fun i => idx G i 0) _) (G.map fun i => (look st.store i).map (renB fun i => idx G i 0)) (st.dirty.filter fun i => Nat.blt i σ.length) ρ2 T2 w' x) :=
        ⟨hh.defers, y, hy1, y, rfl, ρ2, T', hdone⟩
      rcases hex with hex | hex <;> rw [hex] <;> exact hpost

/-- Calls, so deep. -/
theorem calls_sat {env : Env} (he : EnvOK P env) (hmix : P.follows .mixedOrders = true) {W : Nat → Nat → St → Option St} (hW : ∀ n, Weaker n (W n)) {known : FuncId → Bool}
    (hft : ∀ k fn, env.ft k = some fn → P.funcs[k]? = some fn ∧ (fn.name == "runtime.NumGoroutine") = false) :
    ∀ (d : Nat) (k : FuncId) (xs : List SV) (σ : List (Option SB)), Sat P k xs σ (calls env W known d k xs σ)
  | 0, k, xs, σ => he.callee k xs σ
  | d + 1, k, xs, σ => by
    intro K h
    simp only [calls] at h
    cases hk : known k with
    | true => rw [hk] at h; exact he.callee k xs σ K h
    | false =>
      rw [hk] at h
      simp only [cond_false] at h
      split at h
      · exact h.elim
      · rename_i fn hfn
        obtain ⟨h1, h2⟩ := hft k fn hfn
        exact evalFn_sat (env := { env with callee := calls env W known d }) ⟨he.tt, fun k xs σ => calls_sat he hmix hW hft d k xs σ⟩ hmix hW h1 h2 xs σ K h

end Go.Se
