/- Part 10: every operation. -/
import Derived.Test.YtheedafdaolooaaSeCall
namespace Go.Se
variable {P : Program}

/-- What is told of the program is so. -/
structure EnvOK (P : Program) (env : Env) : Prop where
  tt : ∀ t ti, env.tt t = some ti → TIok P t ti
  callee : ∀ k xs σ, Sat P k xs σ (env.callee k xs σ)

theorem evalOp_ok {env : Env} (he : EnvOK P env) {st : St} {o : Oper} {K : KV} (h : evalOp env st o.op K) : Good P st o K := by
  cases ho : o.op <;> simp only [ho, evalOp] at h
  case move x => exact good_move ho h
  case assign x => exact good_assign ho h
  case pick c x y =>
    split at h
    · rename_i b hb; exact good_pick ho hb h
    · exact h.elim
  case alloc t =>
    split at h
    · rename_i ti ht; exact good_alloc he.tt ho ht h
    · exact h.elim
  case box t x =>
    split at h
    · exact h.elim
    · rename_i hj; exact good_box ho hj h
  case build t ps => exact good_build he.tt ho h
  case buildSlice t n ps => exact good_buildSlice he.tt ho h
  case load t x => exact good_load he.tt ho h
  case store t x y => exact good_store he.tt ho h
  case nilCheck x =>
    split at h
    · rename_i i off hx; exact good_nilCheck ho (by rw [hx]) (by rw [hx]; exact h)
    · rename_i cs hx; exact good_nilCheck ho (by rw [hx]) (by rw [hx]; exact h)
    · exact h.elim
  case binOp op t x y ty => exact good_binOp he.tt ho h
  case unOp op t x => exact good_unOp ho h
  case convert src dst x => exact good_convert he.tt ho h
  case makeFunc f x y => exact good_makeFunc ho h
  case fieldAddr s x f => exact good_fieldAddr he.tt rfl ho h
  case field s x f => exact good_field he.tt rfl ho h
  case indexAddr t x i => exact good_indexAddr he.tt rfl ho h
  case index t x i => exact good_index he.tt rfl ho h
  case extract x i =>
    split at h
    · rename_i vs hx
      split at h
      · rename_i v hv; exact good_extract ho hx hv h
      · exact h.elim
    · exact h.elim
  case makeInterface t x =>
    split at h
    · rename_i ti ht
      cases hi : isIfaceK ti.kind with
      | true => rw [hi] at h; exact h.elim
      | false => rw [hi] at h; exact good_makeInterface ho (he.tt _ _ ht) hi h
    · exact h.elim
  case call c =>
    split at h
    · rename_i f hc
      split at h
      · rename_i k first cap hf; exact good_call (he.callee k) ho hc hf h
      · exact h.elim
    · rename_i b hc; exact good_builtin he.tt ho hc h
    · exact h.elim
  all_goals exact h.elim

end Go.Se
