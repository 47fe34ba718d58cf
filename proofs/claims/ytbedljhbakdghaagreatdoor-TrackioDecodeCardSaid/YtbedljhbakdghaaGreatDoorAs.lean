/- errors.As at '*track.wrong': the kit's worked walk (ToyasAs), turned to this program; then as contracts. -/
import Derived.Test.YtbedljhbakdghaaGreatDoorBase
import Derived.WalkKit
import Derived.LaidEql
import Derived.Stop.Asserts
import Derived.RowKitTokens
import Derived.Test.YtbedljhbakdghaaGreatDoorRoot
import Derived.Test.YtbedljhbakdghaaGreatDoorSeTrk
namespace Go.Proofs.YtbedljhbakdghaaGreatDoor
open Go.RowKit Go.Extern.Stop Go.Stop Go.Extern
/-- errors.As(nil, target). -/
theorem as_nil (t : Value) (w : World) :
    Calls Tryz.prog 66 #[.nilIface, t] w fun e w' => e = .returned (.bool false) ∧ w' = w := by
  go_enter Tryz.func66, Tryz.ntmps66
  go_wp2
  go_ret
  exact ⟨rfl, rfl⟩

theorem as_valueOf27 (t : Addr) (w : World) : (ReflectliteValue.unpack (.iface 111 (.pointer (some t)))).run Tryz.prog w
    = .ok (.agg #[.pointer (some ⟨3, 111, none⟩), .pointer (some ⟨w.heap.size, 0, none⟩), .int .u64 150]) (w.alloc (.cells #[.pointer (some t)] 111)) := by kernel_rfl
theorem as_type27 (a : Addr) (w : World) : (ReflectliteValue.methodAny (ReflectliteValue.valueError "reflectlite.Value.Type" 0) (fun t _ _ _ => ReflectliteType.toType t) #[.agg #[.pointer (some ⟨3, 111, none⟩), .pointer (some a), .int .u64 150]]).run Tryz.prog w
    = .ok (.iface 170 (.agg #[.pointer (some ⟨3, 111, none⟩)])) w := by kernel_rfl
theorem as_methodKind (h : Value) (w : World) : (Go.method 386 170 (.agg #[h]) "Kind").run Tryz.prog w = .ok (196, h) w := by kernel_rfl
theorem as_kind27 (w : World) : ((ReflectliteType.abiMethod fun t => (fun a : Nat => Value.int IntKind.u8 (a : Int)) <$> Rtype.kind t) #[.pointer (some ⟨3, 111, none⟩)]).run Tryz.prog w = .ok (.int .u8 22) w := by kernel_rfl
theorem as_kind25 (w : World) : ((ReflectliteType.abiMethod fun t => (fun a : Nat => Value.int IntKind.u8 (a : Int)) <$> Rtype.kind t) #[.pointer (some ⟨3, 106, none⟩)]).run Tryz.prog w = .ok (.int .u8 22) w := by kernel_rfl

theorem rlm (z : Sem Value) (f : TypeId → Addr → Nat → Nat → Sem Value) (v : Value) :
    ReflectliteValue.method z f #[v] = (do match ← ReflectliteValue.parts v with | none => z | some (t, a, fl) => f t a fl (fl % 32)) := rfl
theorem as_parts27 (a : Addr) (w : World) : (ReflectliteValue.parts (.agg #[.pointer (some ⟨3, 111, none⟩), .pointer (some a), .int .u64 150])).run Tryz.prog w = .ok (some (111, a, 150)) w := by kernel_rfl
/-- (Value).IsNil at the Value of a **p.E that is not nil. -/
theorem as_isNil27 (a p : Addr) (W : World) (ha : W.cell? a = some (.pointer (some p))) :
    (ReflectliteValue.method (ReflectliteValue.valueError "reflectlite.Value.IsNil" 0) ReflectliteValue.isNil #[.agg #[.pointer (some ⟨3, 111, none⟩), .pointer (some a), .int .u64 150]]).run Tryz.prog W = .ok (.bool false) W := by
  rw [rlm]
  simp only [Sem.run_bind, as_parts27, Result.andThen]
  simp [ReflectliteValue.isNil, loadVar, isAgg, underlying, Tryz.underlying111, ha, Result.andThen]

theorem as_methodElem (h : Value) (w : World) : (Go.method 386 170 (.agg #[h]) "Elem").run Tryz.prog w = .ok (207, .agg #[h]) w := by kernel_rfl
theorem as_methodImplements (h : Value) (w : World) : (Go.method 386 170 (.agg #[h]) "Implements").run Tryz.prog w = .ok (208, .agg #[h]) w := by kernel_rfl
theorem as_methodAssignableTo (h : Value) (w : World) : (Go.method 386 170 (.agg #[h]) "AssignableTo").run Tryz.prog w = .ok (205, .agg #[h]) w := by kernel_rfl
theorem as_elem27 (w : World) : (ReflectliteType.method ReflectliteType.elem #[.agg #[.pointer (some ⟨3, 111, none⟩)]]).run Tryz.prog w = .ok (.iface 170 (.agg #[.pointer (some ⟨3, 106, none⟩)])) w := by kernel_rfl
theorem as_implements25 (w : World) : (ReflectliteType.relation "Implements" ReflectliteType.implements_ #[.agg #[.pointer (some ⟨3, 106, none⟩)], .iface 170 (.agg #[.pointer (some ⟨3, 109, none⟩)])]).run Tryz.prog w = .ok (.bool true) w := by kernel_rfl
theorem as_typeOf25 (v : Value) (w : World) : (ReflectliteType.typeOf #[.iface 106 v]).run Tryz.prog w = .ok (.iface 170 (.agg #[.pointer (some ⟨3, 106, none⟩)])) w := by kernel_rfl
theorem as_assignable25 (w : World) : (ReflectliteType.relation "AssignableTo" ReflectliteType.assignableTo #[.agg #[.pointer (some ⟨3, 106, none⟩)], .iface 170 (.agg #[.pointer (some ⟨3, 106, none⟩)])]).run Tryz.prog w = .ok (.bool true) w := by kernel_rfl
theorem as_valueOf25 (e : Addr) (w : World) : (ReflectliteValue.unpack (.iface 106 (.pointer (some e)))).run Tryz.prog w
    = .ok (.agg #[.pointer (some ⟨3, 106, none⟩), .pointer (some ⟨w.heap.size, 0, none⟩), .int .u64 150]) (w.alloc (.cells #[.pointer (some e)] 106)) := by kernel_rfl

theorem as_elemOf27 (w : World) : (Rtype.elem? 111).run Tryz.prog w = .ok (some 106) w := by kernel_rfl
theorem as_mk25 (p : Addr) (w : World) : (ReflectliteValue.mk 106 p ReflectliteValue.flagAddr).run Tryz.prog w = .ok (.agg #[.pointer (some ⟨3, 106, none⟩), .pointer (some p), .int .u64 406]) w := by kernel_rfl
/-- (Value).Elem at the Value of a **p.E that is not nil: the Value of the *p.E variable that it points to, addressable. -/
theorem as_elemV27 (a p : Addr) (W : World) (ha : W.cell? a = some (.pointer (some p))) :
    (ReflectliteValue.method (ReflectliteValue.valueError "reflectlite.Value.Elem" 0) ReflectliteValue.elem #[.agg #[.pointer (some ⟨3, 111, none⟩), .pointer (some a), .int .u64 150]]).run Tryz.prog W
      = .ok (.agg #[.pointer (some ⟨3, 106, none⟩), .pointer (some p), .int .u64 406]) W := by
  rw [rlm]
  simp only [Sem.run_bind, as_parts27, Result.andThen]
  simp [ReflectliteValue.elem, loadVar, isAgg, underlying, Tryz.underlying111, ha, Result.andThen, as_elemOf27, as_mk25]
theorem rls (v x : Value) : ReflectliteValue.set #[v, x] = (do
    let (some (dst, a, fl), some (src, b, _)) := (← ReflectliteValue.parts v, ← ReflectliteValue.parts x)
      | unsupported (.noEntry "extern/(internal/reflectlite.Value).Set.zeroValue")
    if fl / ReflectliteValue.flagAddr % 2 == 0 then unsupported (.noEntry "extern/(internal/reflectlite.Value).Set.unaddressable")
    let val ← loadVar src b
    if ← Rtype.directlyAssignable dst src then storeVar dst a val
    else if ← Rtype.implements dst src then
      if (← Rtype.kind src) == 20 then
        match val with
        | .nilIface => unsupported (.noEntry "extern/reflectlite: a nil value of one interface type handed on as a value of another")
        | _ => storeVar dst a val
      else storeVar dst a (.iface src val)
    else panicString ("reflectlite.Set: value of type " ++ (← Rtype.spelt src) ++ " is not assignable to type " ++ (← Rtype.spelt dst))
    pure (.tuple #[])) := rfl
theorem as_parts25a (a : Addr) (w : World) : (ReflectliteValue.parts (.agg #[.pointer (some ⟨3, 106, none⟩), .pointer (some a), .int .u64 406])).run Tryz.prog w = .ok (some (106, a, 406)) w := by kernel_rfl
theorem as_parts25 (a : Addr) (w : World) : (ReflectliteValue.parts (.agg #[.pointer (some ⟨3, 106, none⟩), .pointer (some a), .int .u64 150])).run Tryz.prog w = .ok (some (106, a, 150)) w := by kernel_rfl
theorem as_direct25 (w : World) : (Rtype.directlyAssignable 106 106).run Tryz.prog w = .ok true w := by kernel_rfl
/-- (Value).Set: the *p.E variable at 'ta' gets what the Value's own variable 'b' holds. -/
theorem as_set25 (ta b e : Addr) (old : Value) (W : World) (hb : W.cell? b = some (.pointer (some e))) (ht : W.cell? ta = some old) (hf : W.frozen? ta = false) :
    (ReflectliteValue.set #[.agg #[.pointer (some ⟨3, 106, none⟩), .pointer (some ta), .int .u64 406], .agg #[.pointer (some ⟨3, 106, none⟩), .pointer (some b), .int .u64 150]]).run Tryz.prog W
      = .ok (.tuple #[]) (W.setCell ta (.pointer (some e))) := by
  rw [rls]
  simp only [Sem.run_bind, as_parts25a, as_parts25, Result.andThen]
  simp [ReflectliteValue.flagAddr, loadVar, isAgg, underlying, Tryz.underlying106, hb, Result.andThen, as_direct25, storeVar, Value.cells, storeCells, Addr.add]
  rw [run_store Tryz.prog W ta _ _ (by rfl)]
  simp [ht, hf]

set_option maxRecDepth 1000000 in
set_option maxHeartbeats 4000000 in
theorem as_hit (e t : Addr) (old : Value) (w : World) (hg : w.cell? ⟨0, 0, none⟩ = some (.iface 170 (.agg #[.pointer (some ⟨3, 109, none⟩)]))) (ht0 : w.cell? t = some old) (hf0 : w.frozen? t = false) :
    Calls Tryz.prog 66 #[.iface 106 (.pointer (some e)), .iface 111 (.pointer (some t))] w fun ev w' => ev = .returned (.bool true) ∧ w' = ((((w.alloc (.cells #[.pointer (some t)] 111)).alloc (.cells #[.pointer (some ⟨3, 111, none⟩), .pointer (some ⟨w.heap.size, 0, none⟩), .int .u64 150] 144)).alloc (.cells #[.pointer (some ⟨3, 111, none⟩), .pointer (some ⟨w.heap.size, 0, none⟩), .int .u64 150] 144)).alloc (.cells #[.pointer (some e)] 106)).setCell t (.pointer (some e)) := by
  have h6 := @run_callFunc_extern Tryz.prog 93 _ (fun args => ReflectliteValue.unpack (args.getD 0 (.tuple #[]))) Tryz.func93 (by kernel_rfl) (by kernel_rfl) (by kernel_rfl) (by kernel_rfl)
  have h7 := @run_callFunc_extern Tryz.prog 94 _ (ReflectliteValue.methodAny (ReflectliteValue.valueError "reflectlite.Value.Type" 0) (fun t _ _ _ => ReflectliteType.toType t)) Tryz.func94 (by kernel_rfl) (by kernel_rfl) (by kernel_rfl) (by kernel_rfl)
  have h8 := @run_callFunc_extern Tryz.prog 95 _ (ReflectliteValue.method (ReflectliteValue.valueError "reflectlite.Value.IsNil" 0) ReflectliteValue.isNil) Tryz.func95 (by kernel_rfl) (by kernel_rfl) (by kernel_rfl) (by kernel_rfl)
  have h27 := @run_callFunc_extern Tryz.prog 196 _ (ReflectliteType.abiMethod fun t => do pure (.int .u8 (← Rtype.kind t))) Tryz.func196 (by kernel_rfl) (by kernel_rfl) (by kernel_rfl) (by kernel_rfl)
  have h37 := @run_callFunc_extern Tryz.prog 207 _ (ReflectliteType.method ReflectliteType.elem) Tryz.func207 (by kernel_rfl) (by kernel_rfl) (by kernel_rfl) (by kernel_rfl)
  have h38 := @run_callFunc_extern Tryz.prog 208 _ (ReflectliteType.relation "Implements" ReflectliteType.implements_) Tryz.func208 (by kernel_rfl) (by kernel_rfl) (by kernel_rfl) (by kernel_rfl)
  have h10 := @run_callFunc_extern Tryz.prog 117 _ ReflectliteType.typeOf Tryz.func117 (by kernel_rfl) (by kernel_rfl) (by kernel_rfl) (by kernel_rfl)
  have h35 := @run_callFunc_extern Tryz.prog 205 _ (ReflectliteType.relation "AssignableTo" ReflectliteType.assignableTo) Tryz.func205 (by kernel_rfl) (by kernel_rfl) (by kernel_rfl) (by kernel_rfl)
  have h11 := @run_callFunc_extern Tryz.prog 118 _ (ReflectliteValue.method (ReflectliteValue.valueError "reflectlite.Value.Elem" 0) ReflectliteValue.elem) Tryz.func118 (by kernel_rfl) (by kernel_rfl) (by kernel_rfl) (by kernel_rfl)
  have h12 := @run_callFunc_extern Tryz.prog 119 _ ReflectliteValue.set Tryz.func119 (by kernel_rfl) (by kernel_rfl) (by kernel_rfl) (by kernel_rfl)
  have tO := as_typeOf25
  have mA := as_methodAssignableTo
  have a25 := as_assignable25
  have v25 := as_valueOf25
  have f6 := as_valueOf27
  have f7 := as_type27
  have mK := as_methodKind
  have mE := as_methodElem
  have mI := as_methodImplements
  have k27 := as_kind27
  have k25 := as_kind25
  have e27 := as_elem27
  have i25 := as_implements25
  have n8 := as_isNil27 ⟨w.heap.size, 0, none⟩ t ((w.alloc (.cells #[.pointer (some t)] 111)).alloc (.cells #[.pointer (some ⟨3, 111, none⟩), .pointer (some ⟨w.heap.size, 0, none⟩), .int .u64 150] 144)) (by simp)
  have hlt : 0 < w.heap.size := by
    rcases Nat.eq_zero_or_pos w.heap.size with h0 | h
    · simp [World.cell?, h0] at hg
    · exact h
  have hg2 : ((w.alloc (.cells #[.pointer (some t)] 111)).alloc (.cells #[.pointer (some ⟨3, 111, none⟩), .pointer (some ⟨w.heap.size, 0, none⟩), .int .u64 150] 144)).cell? ⟨0, 0, none⟩ = some (.iface 170 (.agg #[.pointer (some ⟨3, 109, none⟩)])) := by
    rw [World.cell?_alloc_lt _ _ ⟨0, 0, none⟩ (by simp), World.cell?_alloc_lt _ _ ⟨0, 0, none⟩ hlt]; exact hg
  have htl : t.block < w.heap.size := by
    rcases Nat.lt_or_ge t.block w.heap.size with h | h
    · exact h
    · simp [World.cell?, Array.getElem?_eq_none h] at ht0
  have el := as_elemV27 ⟨w.heap.size, 0, none⟩ t (((w.alloc (.cells #[.pointer (some t)] 111)).alloc (.cells #[.pointer (some ⟨3, 111, none⟩), .pointer (some ⟨w.heap.size, 0, none⟩), .int .u64 150] 144)).alloc (.cells #[.pointer (some ⟨3, 111, none⟩), .pointer (some ⟨w.heap.size, 0, none⟩), .int .u64 150] 144)) (by rw [World.cell?_alloc_lt _ _ ⟨w.heap.size, 0, none⟩ (by simp; omega)]; simp)
  have st := as_set25 t ⟨w.heap.size + 1 + 1 + 1, 0, none⟩ e old ((((w.alloc (.cells #[.pointer (some t)] 111)).alloc (.cells #[.pointer (some ⟨3, 111, none⟩), .pointer (some ⟨w.heap.size, 0, none⟩), .int .u64 150] 144)).alloc (.cells #[.pointer (some ⟨3, 111, none⟩), .pointer (some ⟨w.heap.size, 0, none⟩), .int .u64 150] 144)).alloc (.cells #[.pointer (some e)] 106))
    (by rw [World.cell?_alloc_at _ _ _ _ (by simp)]; rfl)
    (by rw [World.cell?_alloc_lt _ _ t (by simp; omega), World.cell?_alloc_lt _ _ t (by simp; omega), World.cell?_alloc_lt _ _ t (by simp; omega), World.cell?_alloc_lt _ _ t htl]; exact ht0)
    (by rw [World.frozen?_alloc_old _ _ t (by simp; omega), World.frozen?_alloc_old _ _ t (by simp; omega), World.frozen?_alloc_old _ _ t (by simp; omega), World.frozen?_alloc_old _ _ t (Nat.ne_of_lt htl)]; exact hf0)
  go_enter Tryz.func66, Tryz.ntmps66
  go_wp2
  refine wp_loop_rounds 1 ?_
  rw [rounds_succ]
  go_wp2
  go_ret
  exact ⟨rfl, rfl⟩
open Go.Se
theorem two_vals {ρ : Names} {T : Nat → Prop} {w : World} {x y : SV} {vals : Array Value} (h : relL ρ T w [x, y] vals.toList) : ∃ a b, vals = #[a, b] ∧ rel ρ T w x a ∧ rel ρ T w y b := by
  obtain ⟨a, r, h1, ha, b, r', h2, hb, h3⟩ := h
  have h3' : r' = [] := h3
  subst h3'; subst h2
  exact ⟨a, b, by rw [← Array.toList_inj, h1], ha, hb⟩
theorem asNil_ok (sb : SB) : CallOK Tryz.prog 66 [.nilI, .iface 111 (.ptr 0 0)] [some sb] (.bool false) [some sb] [] := by
  intro ρ T w vals h1 h2 h3 h4
  obtain ⟨a, b, rfl, ha, y, rfl, _⟩ := two_vals h1
  have ha' : a = .nilIface := ha
  subst ha'
  refine .inl ⟨_, Tryz.func66, by kernel_rfl, by kernel_rfl, (as_nil _ w).mono fun e w' ⟨he, hw⟩ => ⟨_, he, ρ, T, ?_⟩⟩
  subst hw
  exact {
    names := fun _ _ h => h
    only := fun p b hp => (h4 p b hp).1
    len := Nat.le_refl _
    val := rfl
    store := fun p sb hp => by
      obtain ⟨sb', b, e1, e2, e3, e4⟩ := h2 p (List.getElem?_eq_some_iff.1 hp).1
      rw [hp] at e1
      simp only [Option.some.injEq] at e1
      subst e1
      exact ⟨b, e2, e3, e4⟩
    fresh := fun p b hp hb => absurd (h4 p b hb).1 (Nat.not_lt.2 hp)
    inj := fun p q b hp _ hb _ => absurd (h4 p b hb).1 (Nat.not_lt.2 hp)
    dirty := fun _ h => by cases h
    grow := Grow.refl _ _
    tback := fun _ _ h => h
    below := fun p b hp => (h4 p b hp).2
    tkeep := fun _ _ h => .inl h }
theorem asHandle : handleOf Tryz.prog = some (0, .iface 170 (.agg #[.pointer (some ⟨3, 109, none⟩)])) := by kernel_rfl
theorem asHit_ok (sb : SB) (et : TypeId) (c : SV) : CallOK Tryz.prog 66 [.iface 106 (.ptr 0 0), .iface 111 (.ptr 1 0)] [some sb, some (.cells et [c])] (.bool true) [some sb, some (.cells et [.ptr 0 0])] [1] := by
  intro ρ T w vals h1 h2 h3 h4
  obtain ⟨a, b, rfl, ⟨y, rfl, b1, r1, rfl⟩, z, rfl, b0, r0, rfl⟩ := two_vals h1
  obtain ⟨sb0, c0, e1, e2, hT0, hB0⟩ := h2 0 (by simp)
  simp only [List.getElem?_cons_zero, Option.some.injEq] at e1
  subst e1
  rw [r1] at e2; cases e2
  obtain ⟨sb1, c1, e1, e2, hT1, hB1⟩ := h2 1 (by simp)
  simp only [List.getElem?_cons_succ, List.getElem?_cons_zero, Option.some.injEq] at e1
  subst e1
  rw [r0] at e2; cases e2
  obtain ⟨vs, hh, v0, r, hv, _, hr⟩ := hB1
  have hr' : r = [] := hr
  subst hr'
  have hvs : vs = #[v0] := by apply Array.ext'; exact hv
  subst hvs
  have hlt := (h4 1 b0 r0).2
  have hne : b1 ≠ b0 := fun e => by have := h3 0 1 b0 (by rw [r1, e]) r0; cases this
  obtain ⟨_, hg⟩ := h4.inv _ _ asHandle
  refine .inl ⟨_, Tryz.func66, by kernel_rfl, by kernel_rfl, (as_hit ⟨b1, 0, none⟩ ⟨b0, 0, none⟩ v0 w hg (by rw [cell_of hh]; rfl) (frozen_of hh)).mono fun e w' ⟨he, hw⟩ => ⟨_, he, ρ, T, ?_⟩⟩
  generalize hW : (((w.alloc _).alloc _).alloc _).alloc _ = w4 at hw
  have hG4 : Grow (fun _ => False) w w4 := by
    subst hW
    exact (((Grow.alloc _ w _).trans (Grow.alloc _ _ _) fun _ _ h => h).trans (Grow.alloc _ _ _) fun _ _ h => h).trans (Grow.alloc _ _ _) fun _ _ h => h
  have hh4 : w4.heap[b0]? = some (.cells #[v0] et (0, 0)) := by rw [hG4.same b0 hlt fun h => h]; exact hh
  rw [setCell_put hh4] at hw
  have hG5 : Grow (fun c => c = b0) w4 w' := by rw [hw]; exact Grow.put hh4 (by simp) _ rfl
  have hG : Grow (fun c => c = b0) w w' := (hG4.mono fun _ _ h => h.elim).trans hG5 fun _ _ h => h
  have hGT : Grow T w w' := hG.mono fun c _ hc => by rw [hc]; exact hT1
  exact {
    names := fun _ _ h => h
    only := fun p b hp => (h4 p b hp).1
    len := Nat.le_refl _
    val := rfl
    store := fun p sb' hp => by
      match p, hp with
      | 0, hp =>
        simp only [List.getElem?_cons_zero, Option.some.injEq] at hp
        subst hp
        exact ⟨b1, r1, hT0, relB_mono (fun _ _ h => h) (fun _ _ h => h) hGT (hG.same b1 (h4 0 b1 r1).2 hne) hB0⟩
      | 1, hp =>
        simp only [List.getElem?_cons_succ, List.getElem?_cons_zero, Option.some.injEq] at hp
        subst hp
        refine ⟨b0, r0, hT1, _, by rw [hw]; exact putBlock_at (Array.getElem?_eq_some_iff.1 hh4).1, ?_⟩
        exact ⟨_, [], rfl, ⟨b1, r1, rfl⟩, rfl⟩
      | n + 2, hp => simp at hp
    fresh := fun p b hp hb => absurd (h4 p b hb).1 (Nat.not_lt.2 hp)
    inj := fun p q b hp _ hb _ => absurd (h4 p b hb).1 (Nat.not_lt.2 hp)
    dirty := fun p hp => by
      obtain rfl := List.mem_singleton.1 hp
      show 1 < 2
      omega
    grow := hG.mono fun c _ hc => ⟨1, by simp, by rw [hc]; exact r0⟩
    tback := fun _ _ h => h
    below := fun p b hp => Nat.lt_of_lt_of_le (h4 p b hp).2 hG.size
    tkeep := fun _ _ h => .inl h }
def cAs : List SV → List (Option SB) → KC → Prop
  | [.nilI, .iface 111 (.ptr 0 0)], [some b], K => K (.bool false) [some b] []
  | [.iface 106 (.ptr 0 0), .iface 111 (.ptr 1 0)], [some b, some (.cells e [_])], K => K (.bool true) [some b, some (.cells e [.ptr 0 0])] [1]
  | _, _, _ => False
theorem as_sat (xs : List SV) (σ : List (Option SB)) : Sat Tryz.prog 66 xs σ (cAs xs σ) := by
  intro K hK
  unfold cAs at hK
  split at hK
  · exact ⟨_, _, _, hK, asNil_ok _⟩
  · exact ⟨_, _, _, hK, asHit_ok _ _ _⟩
  · exact hK.elim
end Go.Proofs.YtbedljhbakdghaaGreatDoor

namespace Go.Proofs.YtbedljhbakdghaaGreatDoor
open Go.Se
set_option maxRecDepth 100000
noncomputable def t0 : Know Tryz.prog := (k8).add 66 cAs as_sat
/-- What comes behind a loop that stands within another one's round. -/
noncomputable abbrev nestK (env : Env) (W : Nat → St → Option St) (fn : Func) (path : List Nat) (blk : Nat) (inn : List Nat) (K : Ex → St → Prop) : Ex → St → Prop :=
  ctxK env W blk (codeAt (bodyOf fn) (path ++ [0])) inn (fun e => wk (W blk) (K e))
def cAwake : List SV → List (Option SB) → Out
  | [], [] => some (.bool true, [], [])
  | _, _ => none
end Go.Proofs.YtbedljhbakdghaaGreatDoor

