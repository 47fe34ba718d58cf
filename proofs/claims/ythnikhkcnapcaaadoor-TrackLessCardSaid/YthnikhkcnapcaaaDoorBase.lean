import Derived.Test.YthnikhkcnapcaaaDoorChecked
import Derived.Test.YthnikhkcnapcaaaDoorSeData
import Derived.Eval
import Derived.KernelRfl
namespace Go.Proofs.YthnikhkcnapcaaaDoor
open Go.Se

noncomputable def fns : List (FuncId × Func) := [(2, Tryd.f2), (3, Tryd.f3), (4, Tryd.f4), (5, Tryd.f5), (6, Tryd.f6), (7, Tryd.f7), (8, Tryd.f8), (9, Tryd.f9), (10, Tryd.f10), (11, Tryd.f11), (12, Tryd.f12), (13, Tryd.f13), (14, Tryd.f14), (15, Tryd.f15), (16, Tryd.f16), (17, Tryd.f17), (18, Tryd.f18), (19, Tryd.f19), (20, Tryd.f20), (21, Tryd.f21), (22, Tryd.f22), (23, Tryd.f23), (24, Tryd.f24), (25, Tryd.f25), (26, Tryd.f26), (27, Tryd.f27), (31, Tryd.f31), (32, Tryd.f32), (33, Tryd.f33), (34, Tryd.f34), (35, Tryd.f35), (36, Tryd.f36), (37, Tryd.f37), (38, Tryd.f38), (39, Tryd.f39), (40, Tryd.f40), (42, Tryd.f42), (43, Tryd.f43), (44, Tryd.f44), (45, Tryd.f45), (49, Tryd.f49), (50, Tryd.f50), (51, Tryd.f51), (52, Tryd.f52), (53, Tryd.f53), (54, Tryd.f54), (55, Tryd.f55), (56, Tryd.f56), (57, Tryd.f57), (58, Tryd.f58), (60, Tryd.f60), (61, Tryd.f61), (62, Tryd.f62), (63, Tryd.f63), (64, Tryd.f64), (65, Tryd.f65), (66, Tryd.f66), (67, Tryd.f67), (68, Tryd.f68), (69, Tryd.f69), (70, Tryd.f70), (71, Tryd.f71), (72, Tryd.f72), (73, Tryd.f73), (74, Tryd.f74), (75, Tryd.f75), (76, Tryd.f76), (77, Tryd.f77), (78, Tryd.f78), (79, Tryd.f79), (113, Tryd.f113), (114, Tryd.f114), (115, Tryd.f115), (116, Tryd.f116), (122, Tryd.f122)]
theorem fns_ok : ∀ p ∈ fns, Tryd.prog.funcs[p.1]? = some p.2 := List.forall_mem_cons.2 ⟨Tryd.func2, List.forall_mem_cons.2 ⟨Tryd.func3, List.forall_mem_cons.2 ⟨Tryd.func4, List.forall_mem_cons.2 ⟨Tryd.func5, List.forall_mem_cons.2 ⟨Tryd.func6, List.forall_mem_cons.2 ⟨Tryd.func7, List.forall_mem_cons.2 ⟨Tryd.func8, List.forall_mem_cons.2 ⟨Tryd.func9, List.forall_mem_cons.2 ⟨Tryd.func10, List.forall_mem_cons.2 ⟨Tryd.func11, List.forall_mem_cons.2 ⟨Tryd.func12, List.forall_mem_cons.2 ⟨Tryd.func13, List.forall_mem_cons.2 ⟨Tryd.func14, List.forall_mem_cons.2 ⟨Tryd.func15, List.forall_mem_cons.2 ⟨Tryd.func16, List.forall_mem_cons.2 ⟨Tryd.func17, List.forall_mem_cons.2 ⟨Tryd.func18, List.forall_mem_cons.2 ⟨Tryd.func19, List.forall_mem_cons.2 ⟨Tryd.func20, List.forall_mem_cons.2 ⟨Tryd.func21, List.forall_mem_cons.2 ⟨Tryd.func22, List.forall_mem_cons.2 ⟨Tryd.func23, List.forall_mem_cons.2 ⟨Tryd.func24, List.forall_mem_cons.2 ⟨Tryd.func25, List.forall_mem_cons.2 ⟨Tryd.func26, List.forall_mem_cons.2 ⟨Tryd.func27, List.forall_mem_cons.2 ⟨Tryd.func31, List.forall_mem_cons.2 ⟨Tryd.func32, List.forall_mem_cons.2 ⟨Tryd.func33, List.forall_mem_cons.2 ⟨Tryd.func34, List.forall_mem_cons.2 ⟨Tryd.func35, List.forall_mem_cons.2 ⟨Tryd.func36, List.forall_mem_cons.2 ⟨Tryd.func37, List.forall_mem_cons.2 ⟨Tryd.func38, List.forall_mem_cons.2 ⟨Tryd.func39, List.forall_mem_cons.2 ⟨Tryd.func40, List.forall_mem_cons.2 ⟨Tryd.func42, List.forall_mem_cons.2 ⟨Tryd.func43, List.forall_mem_cons.2 ⟨Tryd.func44, List.forall_mem_cons.2 ⟨Tryd.func45, List.forall_mem_cons.2 ⟨Tryd.func49, List.forall_mem_cons.2 ⟨Tryd.func50, List.forall_mem_cons.2 ⟨Tryd.func51, List.forall_mem_cons.2 ⟨Tryd.func52, List.forall_mem_cons.2 ⟨Tryd.func53, List.forall_mem_cons.2 ⟨Tryd.func54, List.forall_mem_cons.2 ⟨Tryd.func55, List.forall_mem_cons.2 ⟨Tryd.func56, List.forall_mem_cons.2 ⟨Tryd.func57, List.forall_mem_cons.2 ⟨Tryd.func58, List.forall_mem_cons.2 ⟨Tryd.func60, List.forall_mem_cons.2 ⟨Tryd.func61, List.forall_mem_cons.2 ⟨Tryd.func62, List.forall_mem_cons.2 ⟨Tryd.func63, List.forall_mem_cons.2 ⟨Tryd.func64, List.forall_mem_cons.2 ⟨Tryd.func65, List.forall_mem_cons.2 ⟨Tryd.func66, List.forall_mem_cons.2 ⟨Tryd.func67, List.forall_mem_cons.2 ⟨Tryd.func68, List.forall_mem_cons.2 ⟨Tryd.func69, List.forall_mem_cons.2 ⟨Tryd.func70, List.forall_mem_cons.2 ⟨Tryd.func71, List.forall_mem_cons.2 ⟨Tryd.func72, List.forall_mem_cons.2 ⟨Tryd.func73, List.forall_mem_cons.2 ⟨Tryd.func74, List.forall_mem_cons.2 ⟨Tryd.func75, List.forall_mem_cons.2 ⟨Tryd.func76, List.forall_mem_cons.2 ⟨Tryd.func77, List.forall_mem_cons.2 ⟨Tryd.func78, List.forall_mem_cons.2 ⟨Tryd.func79, List.forall_mem_cons.2 ⟨Tryd.func113, List.forall_mem_cons.2 ⟨Tryd.func114, List.forall_mem_cons.2 ⟨Tryd.func115, List.forall_mem_cons.2 ⟨Tryd.func116, List.forall_mem_cons.2 ⟨Tryd.func122, fun _ h => nomatch h⟩⟩⟩⟩⟩⟩⟩⟩⟩⟩⟩⟩⟩⟩⟩⟩⟩⟩⟩⟩⟩⟩⟩⟩⟩⟩⟩⟩⟩⟩⟩⟩⟩⟩⟩⟩⟩⟩⟩⟩⟩⟩⟩⟩⟩⟩⟩⟩⟩⟩⟩⟩⟩⟩⟩⟩⟩⟩⟩⟩⟩⟩⟩⟩⟩⟩⟩⟩⟩⟩⟩⟩⟩⟩⟩
theorem fns_name : fns.all (fun p => !(p.2.name == "runtime.NumGoroutine")) = true := by kernel_rfl
theorem fns_names {k : FuncId} {fn : Func} (h : ftOf fns k = some fn) : (fn.name == "runtime.NumGoroutine") = false := by
  have hin : ∀ l : List (FuncId × Func), ftOf l k = some fn → (k, fn) ∈ l := by
    intro l
    induction l with
    | nil => intro h; simp [ftOf] at h
    | cons p l ih =>
      intro h
      obtain ⟨u, j⟩ := p
      simp only [ftOf] at h
      cases e : Nat.beq u k with
      | true => rw [e] at h; simp only [cond_true, Option.some.injEq] at h; rw [← h, ← Nat.eq_of_beq_eq_true e]; exact List.mem_cons_self ..
      | false => rw [e] at h; exact List.mem_cons_of_mem _ (ih h)
  have := List.all_eq_true.1 fns_name _ (hin _ h)
  simpa using this
noncomputable def tab : Tab Tryd.prog where
  tt := tiOf Tryd.prog
  ft := ftOf fns
  htt := fun _ _ h => TIok.of h
  hft := fun _ _ h => ⟨ftOf_ok fns_ok h, fns_names h⟩
  mixed := Tryd.checked.mixed
end Go.Proofs.YthnikhkcnapcaaaDoor
