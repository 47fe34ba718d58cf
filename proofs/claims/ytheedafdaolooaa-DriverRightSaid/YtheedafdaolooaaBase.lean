import Derived.Test.YtheedafdaolooaaChecked
import Derived.Test.YtheedafdaolooaaSeKnow
import Derived.Eval
import Derived.KernelRfl
namespace Go.Proofs.Ytheedafdaolooaa
open Go.Se

noncomputable def fns : List (FuncId × Func) := [(2, Try.f2), (3, Try.f3), (4, Try.f4), (5, Try.f5), (6, Try.f6), (7, Try.f7), (8, Try.f8), (9, Try.f9), (10, Try.f10), (11, Try.f11), (12, Try.f12), (13, Try.f13), (14, Try.f14), (15, Try.f15), (16, Try.f16), (17, Try.f17), (18, Try.f18), (19, Try.f19), (20, Try.f20), (21, Try.f21), (22, Try.f22), (23, Try.f23), (24, Try.f24), (25, Try.f25), (26, Try.f26), (27, Try.f27), (28, Try.f28), (29, Try.f29), (30, Try.f30), (31, Try.f31), (32, Try.f32), (33, Try.f33), (34, Try.f34), (35, Try.f35), (36, Try.f36), (37, Try.f37), (38, Try.f38), (39, Try.f39), (40, Try.f40), (41, Try.f41), (42, Try.f42), (44, Try.f44), (45, Try.f45), (46, Try.f46), (47, Try.f47), (48, Try.f48), (49, Try.f49), (50, Try.f50), (51, Try.f51), (53, Try.f53), (54, Try.f54), (55, Try.f55), (56, Try.f56), (57, Try.f57), (58, Try.f58), (59, Try.f59), (60, Try.f60), (61, Try.f61), (62, Try.f62), (63, Try.f63), (64, Try.f64), (65, Try.f65)]
theorem fns_ok : ∀ p ∈ fns, Try.prog.funcs[p.1]? = some p.2 := List.forall_mem_cons.2 ⟨Try.func2, List.forall_mem_cons.2 ⟨Try.func3, List.forall_mem_cons.2 ⟨Try.func4, List.forall_mem_cons.2 ⟨Try.func5, List.forall_mem_cons.2 ⟨Try.func6, List.forall_mem_cons.2 ⟨Try.func7, List.forall_mem_cons.2 ⟨Try.func8, List.forall_mem_cons.2 ⟨Try.func9, List.forall_mem_cons.2 ⟨Try.func10, List.forall_mem_cons.2 ⟨Try.func11, List.forall_mem_cons.2 ⟨Try.func12, List.forall_mem_cons.2 ⟨Try.func13, List.forall_mem_cons.2 ⟨Try.func14, List.forall_mem_cons.2 ⟨Try.func15, List.forall_mem_cons.2 ⟨Try.func16, List.forall_mem_cons.2 ⟨Try.func17, List.forall_mem_cons.2 ⟨Try.func18, List.forall_mem_cons.2 ⟨Try.func19, List.forall_mem_cons.2 ⟨Try.func20, List.forall_mem_cons.2 ⟨Try.func21, List.forall_mem_cons.2 ⟨Try.func22, List.forall_mem_cons.2 ⟨Try.func23, List.forall_mem_cons.2 ⟨Try.func24, List.forall_mem_cons.2 ⟨Try.func25, List.forall_mem_cons.2 ⟨Try.func26, List.forall_mem_cons.2 ⟨Try.func27, List.forall_mem_cons.2 ⟨Try.func28, List.forall_mem_cons.2 ⟨Try.func29, List.forall_mem_cons.2 ⟨Try.func30, List.forall_mem_cons.2 ⟨Try.func31, List.forall_mem_cons.2 ⟨Try.func32, List.forall_mem_cons.2 ⟨Try.func33, List.forall_mem_cons.2 ⟨Try.func34, List.forall_mem_cons.2 ⟨Try.func35, List.forall_mem_cons.2 ⟨Try.func36, List.forall_mem_cons.2 ⟨Try.func37, List.forall_mem_cons.2 ⟨Try.func38, List.forall_mem_cons.2 ⟨Try.func39, List.forall_mem_cons.2 ⟨Try.func40, List.forall_mem_cons.2 ⟨Try.func41, List.forall_mem_cons.2 ⟨Try.func42, List.forall_mem_cons.2 ⟨Try.func44, List.forall_mem_cons.2 ⟨Try.func45, List.forall_mem_cons.2 ⟨Try.func46, List.forall_mem_cons.2 ⟨Try.func47, List.forall_mem_cons.2 ⟨Try.func48, List.forall_mem_cons.2 ⟨Try.func49, List.forall_mem_cons.2 ⟨Try.func50, List.forall_mem_cons.2 ⟨Try.func51, List.forall_mem_cons.2 ⟨Try.func53, List.forall_mem_cons.2 ⟨Try.func54, List.forall_mem_cons.2 ⟨Try.func55, List.forall_mem_cons.2 ⟨Try.func56, List.forall_mem_cons.2 ⟨Try.func57, List.forall_mem_cons.2 ⟨Try.func58, List.forall_mem_cons.2 ⟨Try.func59, List.forall_mem_cons.2 ⟨Try.func60, List.forall_mem_cons.2 ⟨Try.func61, List.forall_mem_cons.2 ⟨Try.func62, List.forall_mem_cons.2 ⟨Try.func63, List.forall_mem_cons.2 ⟨Try.func64, List.forall_mem_cons.2 ⟨Try.func65, fun _ h => nomatch h⟩⟩⟩⟩⟩⟩⟩⟩⟩⟩⟩⟩⟩⟩⟩⟩⟩⟩⟩⟩⟩⟩⟩⟩⟩⟩⟩⟩⟩⟩⟩⟩⟩⟩⟩⟩⟩⟩⟩⟩⟩⟩⟩⟩⟩⟩⟩⟩⟩⟩⟩⟩⟩⟩⟩⟩⟩⟩⟩⟩⟩⟩
theorem fns_name : fns.all (fun p => !(p.2.name == "runtime.NumGoroutine")) = true := by kernel_rfl
theorem fns_names {k : FuncId} {fn : Func} (h : ftOf fns k = some fn) : (fn.name == "runtime.NumGoroutine") = false := by
  have hin : ∀ l : List (FuncId × Func), ftOf l k = some fn → (k, fn) ∈ l := by
    intro l
    induction l with
    | nil => intro h; simp [ftOf] at h
    | cons p l ih =>
      intro h
      obtain ⟨u, j⟩ := p
      simp only [ftOf] at h
      cases e : Nat.beq u k with
      | true => rw [e] at h; simp only [cond_true, Option.some.injEq] at h; rw [← h, ← Nat.eq_of_beq_eq_true e]; exact List.mem_cons_self ..
      | false => rw [e] at h; exact List.mem_cons_of_mem _ (ih h)
  have := List.all_eq_true.1 fns_name _ (hin _ h)
  simpa using this
noncomputable def tab : Tab Try.prog where
  tt := tiOf Try.prog
  ft := ftOf fns
  htt := fun _ _ h => TIok.of h
  hft := fun _ _ h => ⟨ftOf_ok fns_ok h, fns_names h⟩
  mixed := Try.checked.mixed
end Go.Proofs.Ytheedafdaolooaa
