/- Part 17: from what a law's run comes to, to the row's statement. -/
import Derived.Test.YtheedafdaolooaaSeData
import Derived.Below
import Derived.ChangeSame
import Derived.Carry
namespace Go.Se
open Go.RowKit Go.WideShapes Go.ChangeShapes
variable {P : Program}

section
variable {H : Type} {enc : TypeId × Value → H}
theorem post_of_below {f : Func} {s : ChangeSpec} {apart fresh handsOn again : Bool} {W W' : World} {args : Array Value} {v : Value} {ds gs : List (DataW H)} {before pa pv : List MemPlace}
    (hW : DataW.Whole enc P f.params.toList s.vars apart W args.toList ds gs before)
    (hres : ∀ (b : Nat) (sp : Nat → Bool) (hd : Bool), DataW.TrodAll enc P W' b sp hd f.resultTypes.toList (v.resultList f.resultTypes.size) (s.fn H (ds ++ gs)).results [])
    (hargs : ∀ sp : Nat → Bool, (∀ p ∈ before, sp p.block = true) → DataW.TrodAll enc P W' 0 sp true f.params.toList args.toList (s.fn H (ds ++ gs)).args pa)
    (hvars : ∀ sp : Nat → Bool, (∀ p ∈ before, sp p.block = true) → DataW.TrodVars enc P W' sp s.vars (s.fn H (ds ++ gs)).vars pv)
    (hps : before = pa ++ pv) (hb : Below W.heap.size W W')
    (hok : ∀ (j : Nat) (t : TypeId) (r : Value), f.resultTypes[j]? = some t → (v.resultList f.resultTypes.size)[j]? = some r → Value.okWide P W' .any 0 t r) :
    s.post enc P f apart fresh handsOn again W args v W' := by
  have hlt : ∀ p ∈ before, p.block < W.heap.size := fun p hp => hW.lt p hp
  have hold : ∀ p ∈ before, (fun b => decide (b < W.heap.size)) p.block = true := fun p hp => by simpa using hlt p hp
  refine ⟨ds, gs, before, [], pa, pv, hW, hres _ _ _, hargs _ hold, hvars _ hold, World.keptBut_mono (fun p hp => ⟨hp, ?_⟩) (hb.frame (· ∈ before)), fun _ => ?_⟩
  · rw [hps, List.mem_append] at hp
    exact Or.inr hp
  · obtain ⟨_, _, _, _, _, hz, hn⟩ := hW
    refine ⟨hok, _, _, ([] ++ pa) ++ pv, ⟨[] ++ pa, pv, trodAll_append (hargs _ (fun _ _ => rfl)) (hres _ _ _), hvars _ (fun _ _ => rfl), rfl, ?_, ?_⟩, ?_⟩
    · intro b off hp
      have hin : MemPlace.cell b off ∈ before := by rw [hps]; simpa using hp
      rw [hb.frozen (hlt _ hin)]
      exact hz b off hin
    · intro ha
      have := hn ha
      rw [hps] at this
      simpa using this
    · intro p hp _
      rw [hps]
      simpa using hp
end

/-- An argument, as a shaped value. -/
def argSV (tt : TypeId → Option TI) (d : Nat) (t : TypeId) (V : Val) : SV :=
  match tt t with
  | some ti => match ti.kind with
    | .struct _ => .agg (mk tt d t V)
    | .array _ _ => .agg (mk tt d t V)
    | _ => match mk tt d t V with
      | [x] => x
      | _ => .junk
  | none => .junk

def argsSV (tt : TypeId → Option TI) (d : Nat) : Nat → List TypeId → Val → List SV
  | _, [], _ => []
  | i, t :: ts, V => argSV tt d t (V.sub i) :: argsSV tt d (i + 1) ts V

section
variable {H : Type} {enc : TypeId × Value → H} {w : World} {tt : TypeId → Option TI}

theorem arg_mk (htt : ∀ t ti, tt t = some ti → TIok P t ti) {d : Nat} {t : TypeId} {v : Value} {x : DataW H} {ps : List MemPlace} {base : Nat}
    (hp : plain tt d t = true) (hv : Value.okWide P w .any base t v) (h : DataW.Trod enc P w 0 (fun _ => true) true t v x ps) :
    ∃ V, rel (fun _ => none) (fun _ => False) w (argSV tt d t V) v := by
  obtain ⟨fuel, hf⟩ := h
  obtain ⟨V, hV⟩ := trod_mk htt d t fuel _ _ hp hf
  refine ⟨V, ?_⟩
  unfold argSV
  cases ht : tt t with
  | none => trivial
  | some ti =>
    have hti := htt _ _ ht
    obtain ⟨ds, hd, hk⟩ := hti.desc
    have hagg : (∃ cs, v = .agg cs) → rel (fun _ => none) (fun _ => False) w (.agg (mk tt d t V)) v := by
      rintro ⟨cs, rfl⟩
      exact ⟨cs, rfl, hV⟩
    have hone : v.cells = #[v] → rel (fun _ => none) (fun _ => False) w (match mk tt d t V with | [x] => x | _ => SV.junk) v := by
      intro hc
      rw [hc] at hV
      split
      · rename_i y hy
        rw [hy] at hV
        obtain ⟨_, _, h1, h2, h3⟩ := hV
        simp at h1
        obtain ⟨rfl, rfl⟩ := h1
        exact h2
      · trivial
    have hcells : (∀ cs, v ≠ .agg cs) → v.cells = #[v] := by
      intro h
      cases v <;> first | rfl | exact absurd rfl (h _)
    cases hkk : ti.kind <;> (simp only [hkk])
    case struct fs =>
      obtain ⟨gs, hgs, _⟩ := kind_struct hti hkk
      apply hagg
      unfold Value.okWide at hv
      rw [hgs] at hv
      obtain ⟨cs, h1, _⟩ := hv
      exact ⟨cs, h1⟩
    case array n e =>
      have hgs := kind_array hti hkk
      apply hagg
      unfold Value.okWide at hv
      rw [hgs] at hv
      obtain ⟨cs, h1, _⟩ := hv
      exact ⟨cs, h1⟩
    all_goals
      refine hone (hcells ?_)
      rintro cs rfl
      rw [hkk] at hk
      unfold Value.okWide at hv
      rw [hd] at hv
      cases ds <;> simp only [kindOf, Option.some.injEq, reduceCtorEq] at hk <;> (try simp [Cell.okWide, Cell.ok, hd] at hv)
      all_goals (rename_i fsx; cases hb : fsx.toList.all (fun f => f.name != "_") <;> rw [hb] at hk <;> simp at hk)

theorem args_mk (htt : ∀ t ti, tt t = some ti → TIok P t ti) {d : Nat} {base : Nat} : ∀ (ts : List TypeId) (vs : List Value) (ds : List (DataW H)) (ps : List MemPlace) (k : Nat),
    ts.all (plain tt d) = true → (∀ (j : Nat) t v, ts[j]? = some t → vs[j]? = some v → Value.okWide P w .any base t v) → DataW.TrodAll enc P w 0 (fun _ => true) true ts vs ds ps →
    ∃ F : Nat → Val, ∀ V : Val, (∀ i, k ≤ i → V.sub i = F i) → relL (fun _ => none) (fun _ => False) w (argsSV tt d k ts V) vs
  | [], vs, ds, ps, k, _, _, h => by
    refine ⟨fun _ => Val.zero, fun V _ => ?_⟩
    cases vs with
    | nil => rfl
    | cons v vs => cases ds <;> exact h.elim
  | t :: ts, [], ds, ps, k, _, _, h => by cases ds <;> exact h.elim
  | t :: ts, v :: vs, [], ps, k, _, _, h => h.elim
  | t :: ts, v :: vs, x :: ds, ps, k, hp, hv, h => by
    obtain ⟨p, q, h1, h2, _⟩ := h
    rw [List.all_cons, Bool.and_eq_true] at hp
    obtain ⟨V0, hV0⟩ := arg_mk htt hp.1 (hv 0 t v rfl rfl) h1
    obtain ⟨F, hF⟩ := args_mk htt ts vs ds q (k + 1) hp.2 (fun j t' v' h h' => hv (j + 1) t' v' (by simpa using h) (by simpa using h')) h2
    refine ⟨fun i => if i = k then V0 else F i, fun V hV => ?_⟩
    have h3 := hF V fun i hi => (hV i (by omega)).trans (if_neg (by omega))
    refine ⟨v, vs, rfl, ?_, h3⟩
    rw [(hV k (Nat.le_refl _)).trans (if_pos rfl)]
    exact hV0

theorem below_of_grow {W W' : World} (h : Grow (fun _ => False) W W') : Below W.heap.size W W' :=
  ⟨h.os, h.tape, h.output, h.size, fun k hk => h.same k hk id⟩

theorem trodAll_stays (hl : laidOutB P = true) {W W' : World} (hb : Below W.heap.size W W') : ∀ (ts : List TypeId) (vs : List Value) (ds : List (DataW H)) (ps : List MemPlace),
    ts.all (fun t => P.readableRec t && decide (t < P.types.size)) = true → DataW.TrodAll enc P W 0 (fun _ => true) true ts vs ds ps → (∀ p ∈ ps, p.block < W.heap.size) →
    ∀ sp : Nat → Bool, (∀ p ∈ ps, sp p.block = true) → DataW.TrodAll enc P W' 0 sp true ts vs ds ps
  | [], [], [], ps, _, h, _, _, _ => h
  | [], _ :: _, _, ps, _, h, _, _, _ => h.elim
  | [], [], _ :: _, ps, _, h, _, _, _ => h.elim
  | t :: ts, [], ds, ps, _, h, _, _, _ => by cases ds <;> exact h.elim
  | t :: ts, v :: vs, [], ps, _, h, _, _, _ => h.elim
  | t :: ts, v :: vs, x :: ds, ps, hr, h, hlt, sp, hsp => by
    obtain ⟨p, q, h1, h2, rfl⟩ := h
    rw [List.all_cons, Bool.and_eq_true, Bool.and_eq_true, decide_eq_true_eq] at hr
    refine ⟨p, q, ?_, trodAll_stays hl hb ts vs ds q hr.2 h2 (fun y hy => hlt y (List.mem_append_right _ hy)) sp (fun y hy => hsp y (List.mem_append_right _ hy)), rfl⟩
    exact WideElems.Trod_stays hl hr.1.1 hr.1.2 h1 (fun y hy => hb.same (hlt y (List.mem_append_left _ hy))) (fun y hy => hsp y (List.mem_append_left _ hy))

/-- What is told of a law's run: the row's last line. -/
theorem law_post {C : Checked} (hl : laidOutB C.prog = true) (htt : ∀ t ti, tt t = some ti → TIok C.prog t ti) {d : Nat} {k : FuncId} {fn : Func} (hfn : C.prog.funcs[k]? = some fn) (hbody : fn.body.isNone = false)
    (hpl : fn.params.toList.all (plain tt d) = true) (hrd : fn.params.toList.all (fun t => C.prog.readableRec t && decide (t < C.prog.types.size)) = true)
    {tb : TypeId} (hres : fn.resultTypes = #[tb]) (hbool : C.prog.underlying tb = some .bool)
    {s : ChangeSpec} (hvars : s.vars = []) (hspec : ∀ ds : List (DataW H), ds.length = fn.params.size → s.fn H ds = { results := [.lit (.bool true)], args := ds })
    {Φ : Val → KC → Prop} (hsat : ∀ V, Sat C.prog k (argsSV tt d 0 fn.params.toList V) [] (Φ V))
    (hlaw : ∀ V, Φ V fun v _ _ => v = .bool true) {apart fresh handsOn again : Bool}
    (W : World) (base : Nat) (args : Array Value) (ds gs : List (DataW H)) (before : List MemPlace)
    (hval : ∀ (j : Nat) t v, fn.params[j]? = some t → args[j]? = some v → Value.okWide C.prog W .any base t v)
    (hW : DataW.Whole enc C.prog fn.params.toList s.vars apart W args.toList ds gs before) :
    Calls C.prog k args W fun e W' => ∃ v, e = .returned v ∧ s.post enc C.prog fn apart fresh handsOn again W args v W' := by
  have hW' := hW
  obtain ⟨p, q, hA, hV, rfl, hz, hn⟩ := hW
  rw [hvars] at hV
  obtain ⟨rfl, rfl⟩ := trodVars_none hV
  obtain ⟨F, hF⟩ := args_mk htt _ _ _ _ 0 hpl (fun j t v h h' => hval j t v (by simpa using h) (by simpa using h')) hA
  have hargs := hF (Val.join 0 false ByteArray.empty 0 F) fun i _ => rfl
  obtain ⟨v, σ', dd, hv, hcall⟩ := hsat (Val.join 0 false ByteArray.empty 0 F) _ (hlaw _)
  subst hv
  have hrun := hcall (fun _ => none) (fun _ => False) W args hargs (fun p hp => absurd hp (Nat.not_lt_zero _)) (fun i j b h => by cases h) (fun p b h => by cases h)
  have hlt : ∀ x ∈ p, x.block < W.heap.size := fun x hx => hW'.lt x (by simpa using hx)
  have hlen : ∀ (ts : List TypeId) (vs : List Value) (ds : List (DataW H)) (ps : List MemPlace), DataW.TrodAll enc C.prog W 0 (fun _ => true) true ts vs ds ps → ds.length = ts.length := by
    intro ts
    induction ts with
    | nil => intro vs ds ps h; cases vs <;> cases ds <;> first | rfl | exact h.elim
    | cons t ts ih =>
      intro vs ds ps h
      cases vs with
      | nil => cases ds <;> exact h.elim
      | cons v vs => cases ds with
        | nil => exact h.elim
        | cons x ds => obtain ⟨_, _, _, h2, _⟩ := h; simp [ih _ _ _ h2]
  have hds : ds.length = fn.params.size := by rw [hlen _ _ _ _ hA]; simp
  rcases hrun with ⟨fn', hfn', _, _, hc⟩ | ⟨x, w', hx, _⟩
  · refine hc.mono fun e W' ⟨x, he, ρ', T', hd⟩ => ⟨x, he, ?_⟩
    have hx : x = .bool true := hd.val
    subst hx
    have hb : Below W.heap.size W W' := below_of_grow (hd.grow.mono fun b _ ⟨_, _, h⟩ => by cases h)
    have hsp := hspec ds hds
    refine post_of_below (pa := p) (pv := []) hW' ?_ ?_ ?_ (by simp) hb (ok_one hres rfl (okWide_bool_mk hbool true))
    · intro b sp hd
      rw [List.append_nil, hsp, hres]
      exact trodAll_mk1 (shut_bool hbool true)
    · intro sp hs
      rw [List.append_nil, hsp]
      exact trodAll_stays hl hb _ _ _ _ hrd hA hlt sp (fun y hy => hs y (by simpa using hy))
    · intro sp hs
      rw [List.append_nil, hsp, hvars]
      rfl
  · exfalso
    have hc : (callFunc k args).run C.prog W = (if fn.name == "runtime.NumGoroutine" then (pure .numGoroutine : Sem Next) else pure (.enter k args)).run C.prog W := by
      unfold callFunc
      simp only [Sem.run_bind, run_program, Result.andThen_ok, hfn, hbody, Bool.false_eq_true, if_false]
    rw [hc] at hx
    split at hx <;> cases hx
end
end Go.Se
