/- What the symbolic run asks of a program's types. -/
import Derived.Test.YtheedafdaolooaaSeDefs
namespace Go.Se

/-- A zero value's cells, if they are of a known shape. -/
def zeroCells : List Value → Option (List SV)
  | [] => some []
  | v :: l => match v, zeroCells l with
    | .int k n, some r => bif decide (n = 0) then some (.int k 0 :: r) else none
    | .bool b, some r => some (.bool b :: r)
    | .string s, some r => bif Nat.beq s.size 0 then some (.str s :: r) else none
    | .pointer none, some r => some (.nilp :: r)
    | .slice none 0 0, some r => some (.nils :: r)
    | .nilFunc, some r => some (.nilfn :: r)
    | .nilIface, some r => some (.nilI :: r)
    | _, _ => none

def kindOf (d : TypeDesc) : Option TK :=
  match d with
  | .bool => some .bool
  | .int k => some (.int k)
  | .string => some .string
  | .pointer e => some (.ptr e)
  | .slice e => some (.slice e)
  | .array n e => some (.array n e)
  | .struct fs => bif fs.toList.all (fun f => f.name != "_") then some (.struct (fs.toList.map fun f => (f.offset, f.type))) else none
  | .func _ _ _ => some .func
  | .interface ms => some (.iface ms.isEmpty)
  | .map k e => some (.map k e)
  | _ => none

def kindIn (P : Program) (t : TypeId) : TK → Bool
  | .struct fs => !P.stoodInHeld t && fs.all (fun f => (P.info? f.2).isSome)
  | _ => true

def tiOf (P : Program) (t : TypeId) : Option TI :=
  match P.info? t, P.underlying t with
  | some i, some d => match i.zero, kindOf d with
    | some z, some k => match zeroCells z.cells.toList with
      | some cs => bif kindIn P t k then some ⟨k, i.size, i.bytes, cs⟩ else none
      | none => none
    | _, _ => none
  | _, _ => none

/-- A table of some types. -/
def ttOf (l : List (TypeId × TI)) (t : TypeId) : Option TI :=
  match l with
  | [] => none
  | (u, i) :: l => bif Nat.beq u t then some i else ttOf l t

theorem ttOf_ok {P : Program} {l : List (TypeId × TI)} (h : l.map (fun p => tiOf P p.1) = l.map (fun p => some p.2)) {t : TypeId} {i : TI}
    (ht : ttOf l t = some i) : tiOf P t = some i := by
  induction l with
  | nil => simp [ttOf] at ht
  | cons p l ih =>
    obtain ⟨u, j⟩ := p
    simp only [List.map_cons, List.cons.injEq] at h
    simp only [ttOf] at ht
    cases e : Nat.beq u t with
    | true =>
      rw [e] at ht
      simp only [cond_true, Option.some.injEq] at ht
      rw [← ht, ← Nat.eq_of_beq_eq_true e]; exact h.1
    | false => rw [e] at ht; exact ih h.2 ht

def ftOf (l : List (FuncId × Func)) (t : FuncId) : Option Func :=
  match l with
  | [] => none
  | (u, i) :: l => bif Nat.beq u t then some i else ftOf l t

theorem ftOf_ok {P : Program} {l : List (FuncId × Func)} (h : ∀ p ∈ l, P.funcs[p.1]? = some p.2) {t : FuncId} {f : Func}
    (ht : ftOf l t = some f) : P.funcs[t]? = some f := by
  induction l with
  | nil => simp [ftOf] at ht
  | cons p l ih =>
    obtain ⟨u, j⟩ := p
    simp only [ftOf] at ht
    cases e : Nat.beq u t with
    | true =>
      rw [e] at ht
      simp only [cond_true, Option.some.injEq] at ht
      rw [← ht, ← Nat.eq_of_beq_eq_true e]; exact h (u, j) (by simp)
    | false => rw [e] at ht; exact ih (fun p hp => h p (by simp [hp])) ht

end Go.Se
