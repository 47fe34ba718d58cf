/- Part 8: builtins. -/
import Derived.Test.YtheedafdaolooaaSeBuild
namespace Go.Se
variable {P : Program}

theorem maxL_ok {ρ : Names} {T : Nat → Prop} {w : World} {k : IntKind} : ∀ (l : List SV) (up : Bool) (a n : Int) (vs : List Value), maxL k up a l = some n → relL ρ T w l vs →
    k.min ≤ a ∧ a ≤ k.max →
    (vs.foldlM (if up then Builtin.max2 else Builtin.min2) (.int k a)).run P w = .ok (.int k n) w ∧ k.min ≤ n ∧ n ≤ k.max
  | [], up, a, n, vs, h, hv, ha => by
    simp only [maxL, Option.some.injEq] at h
    subst h; rw [hv]; exact ⟨rfl, ha⟩
  | x :: l, up, a, n, vs, h, ⟨y, r, h1, h2, h3⟩, ha => by
    cases x <;> simp only [maxL, reduceCtorEq] at h
    rename_i j b
    cases hj : decide (j = k) with
    | false => rw [hj] at h; cases h
    | true =>
      rw [hj] at h
      obtain rfl := of_decide_eq_true hj
      simp only [cond_true] at h
      obtain ⟨rfl, hb⟩ := h2
      subst h1
      cases up
      · simp only [cond_false] at h
        obtain ⟨h4, h5⟩ := maxL_ok l false _ n r h h3 (by split <;> assumption)
        refine ⟨?_, h5⟩
        simp only [Bool.false_eq_true, if_false, List.foldlM_cons, Sem.run_bind] at h4 ⊢
        simp only [Builtin.min2, Sem.run_pure, Result.andThen_ok]
        exact h4
      · simp only [cond_true] at h
        obtain ⟨h4, h5⟩ := maxL_ok l true _ n r h h3 (by split <;> assumption)
        refine ⟨?_, h5⟩
        simp only [if_true, List.foldlM_cons, Sem.run_bind] at h4 ⊢
        simp only [Builtin.max2, Sem.run_pure, Result.andThen_ok]
        exact h4

section
variable {st : St} {o : Oper} {K : KV} {env : Env} (htt : ∀ t ti, env.tt t = some ti → TIok P t ti)
include htt

theorem good_builtin {c : Call} {b : Builtin} (ho : o.op = .call c) (hc : c.callee = .builtin b) (h : builtinE env b c.argTypes.toList (c.args.toList.map (eval st.tmps)) st K) : Good P st o K := by
  have hexec : ∀ (a : Act), execOp a.eval o = Go.builtin b c.argTypes o.type (c.args.map fun | .const _ => true | _ => false) (c.args.map a.eval) := by
    intro a
    simp only [execOp, ho, resolve, hc, invoke]
    rfl
  have hargs : ∀ (ρ : Names) (T : Nat → Prop) (a : Act) (w : World), (∀ x, x ∈ o.op.operands → rel ρ T w (eval st.tmps x) (a.eval x)) →
      relL ρ T w (c.args.toList.map (eval st.tmps)) (c.args.map a.eval).toList := by
    intro ρ T a w hr
    rw [Array.toList_map]
    refine relL_map _ fun x hx => hr x ?_
    simp only [ho, Op.operands, Call.operands, hc]
    simpa using hx
  unfold builtinE at h
  split at h
  · rename_i t ts x hts hxs
    have len_case : ∀ (n : Nat) (p : TK → Bool), K (.int .i64 n) [] st.nxt [] [] → (∀ (ρ : Names) (T : Nat → Prop) (w : World) (y : Value), rel ρ T w x y →
        (Builtin.len_ c.argTypes o.type #[y]).run P w = .ok (.int .i64 n) w ∧ n < 9223372036854775808) → Good P st o K := by
      intro n p hK hl
      refine Good.pure hK (OpOK.pure fun ρ T a w hr => ?_)
      have h1 := hargs ρ T a w hr
      rw [hxs] at h1
      obtain ⟨y, r, h2, h3, h4⟩ := h1
      have h4' : r = [] := h4
      subst h4'
      have h5 : c.args.map a.eval = #[y] := by apply Array.ext'; exact h2
      obtain ⟨h6, h7⟩ := hl ρ T w y h3
      refine ⟨.int .i64 n, ?_, rfl, ?_⟩
      · rw [hexec, h5]; simp only [Go.builtin, Sem.run_bind, h6]; rfl
      · show (-9223372036854775808 : Int) ≤ _ ∧ _ ≤ (9223372036854775807 : Int); omega
    have ht0 : c.argTypes[0]? = some t := by rw [← Array.getElem?_toList, hts]; rfl
    have slice_case : ∀ (n : Nat), (bif kindIs env.tt t isSliceK then K (.int .i64 n) [] st.nxt [] [] else False) →
        (∀ (ρ : Names) (T : Nat → Prop) (w : World) (y : Value), rel ρ T w x y → (∃ a m, y = .slice a n m) ∧ n < 9223372036854775808) → Good P st o K := by
      intro n hK hy
      cases hki : kindIs env.tt t isSliceK with
      | false => rw [hki] at hK; exact hK.elim
      | true =>
        rw [hki] at hK
        obtain ⟨ti, ht, hk⟩ := kindIs_elim hki
        obtain ⟨e, hkb⟩ : ∃ e, ti.kind = .slice e := by cases hkk : ti.kind <;> rw [hkk] at hk <;> first | exact ⟨_, rfl⟩ | cases hk
        refine len_case n (fun _ => true) hK fun ρ T w y hr => ?_
        obtain ⟨⟨a, m, rfl⟩, hn⟩ := hy ρ T w y hr
        have hu : ∀ w, (Go.underlying t).run P w = .ok (.slice e) w := fun w => by simp [Go.underlying, kind_slice (htt _ _ ht) hkb]
        refine ⟨?_, hn⟩
        simp [Builtin.len_, ht0, hu, goInt]
    split at h
    · exact slice_case _ h fun ρ T w y hr => by obtain ⟨a, c, rfl, h2, _⟩ := hr; exact ⟨⟨_, _, rfl⟩, h2⟩
    · exact slice_case _ h fun ρ T w y hr => by obtain ⟨b, c, _, rfl, h2, h3, _⟩ := hr; exact ⟨⟨_, _, rfl⟩, by omega⟩
    · exact slice_case _ h fun ρ T w y hr => by obtain ⟨⟨b, _, rfl⟩, h2⟩ := hr; exact ⟨⟨_, _, rfl⟩, h2⟩
    · exact slice_case 0 h fun ρ T w y hr => by have h' : y = .slice none 0 0 := hr; rw [h']; exact ⟨⟨_, _, rfl⟩, by decide⟩
    · rename_i s
      cases hki : kindIs env.tt t isStringK with
      | false => rw [hki] at h; exact h.elim
      | true =>
        rw [hki] at h
        obtain ⟨ti, ht, hk⟩ := kindIs_elim hki
        have hkb : ti.kind = .string := by cases hkk : ti.kind <;> rw [hkk] at hk <;> first | rfl | cases hk
        refine len_case s.size (fun _ => true) h fun ρ T w y hr => ?_
        obtain ⟨rfl, hs⟩ := hr
        have hu : ∀ w, (Go.underlying t).run P w = .ok .string w := fun w => by simp [Go.underlying, kind_string (htt _ _ ht) hkb]
        exact ⟨by simp [Builtin.len_, ht0, hu, goInt], hs⟩
    · exact h.elim
  · rename_i k a0 l hxs
    split at h
    · rename_i n hn
      refine Good.pure h (OpOK.pure fun ρ T a w hr => ?_)
      have h1 := hargs ρ T a w hr
      rw [hxs] at h1
      obtain ⟨y, r, h2, ⟨rfl, ha⟩, h4⟩ := h1
      obtain ⟨h5, h6⟩ := maxL_ok (P := P) l true a0 n r hn h4 ha
      refine ⟨.int k n, ?_, rfl, h6⟩
      simp only [if_true] at h5
      rw [hexec]
      simp only [Go.builtin, Builtin.max_, h2, Sem.run_bind, h5]
      rfl
    · exact h.elim
  · rename_i k a0 l hxs
    split at h
    · rename_i n hn
      refine Good.pure h (OpOK.pure fun ρ T a w hr => ?_)
      have h1 := hargs ρ T a w hr
      rw [hxs] at h1
      obtain ⟨y, r, h2, ⟨rfl, ha⟩, h4⟩ := h1
      obtain ⟨h5, h6⟩ := maxL_ok (P := P) l false a0 n r hn h4 ha
      refine ⟨.int k n, ?_, rfl, h6⟩
      simp only [Bool.false_eq_true, if_false] at h5
      rw [hexec]
      simp only [Go.builtin, Builtin.min_, h2, Sem.run_bind, h5]
      rfl
    · exact h.elim
  · exact h.elim

end
end Go.Se
