/-
  The symbolic run of a function's code, as a computation: what it comes to on values whose shape is known, as a condition on its end (K).
  Nothing is proved here.
-/
import GoSem.Dispatch
import Derived.Orders
import Derived.LoopN
import GoSem.ClaimJoined
import Derived.Laws.Sem
import Derived.Laws.World
import Derived.Calls
namespace Go.Se

/-- A value whose shape is known; numbers in it may be anything. -/
inductive SV where
  | junk
  | int (k : IntKind) (n : Int)
  | bool (b : Bool)
  | str (s : ByteArray)
  | nilp
  | ptr (id off : Nat)
  | eptr (id i st o : Nat)
  | rptr (cs : List SV)
  | fn (f : Fn) (first cap : List SV)
  | nilfn
  | agg (cs : List SV)
  | tup (vs : List SV)
  | nils
  | emp
  | arr (id off len cap : Nat)
  | own (id off st len : Nat)
  | ro (len st : Nat) (get : Nat → List SV)
  | nilI
  | iface (t : TypeId) (v : SV)
  | yld (id : Nat)

/-- How a piece of text is left. -/
inductive Ex where
  | normal
  | exit (id : Nat)
  | ret

/-- How a loop's record stands. -/
inductive Pd where
  | ready
  | busy
  | left (e : Ex)

/-- A block that is followed: cells, or a row of which only the first ones are known; or the record of a range over a function. -/
inductive SB where
  | cells (elem : TypeId) (cs : List SV)
  | lst (elem : TypeId) (cs : List SV)
  | row (elem : TypeId) (st len : Nat) (get : Nat → List SV)
  | loop (tm : List (Nat × SV)) (nt : Nat) (ps : List Nat) (assign body : Code) (pend : Pd)
  | iter (s : ByteArray) (pos : Nat)

inductive TK where
  | bool | int (k : IntKind) | string
  | ptr (e : TypeId) | slice (e : TypeId) | array (n : Nat) (e : TypeId) | struct (fs : List (Nat × TypeId))
  | func | iface (none : Bool) | map (k e : TypeId) | other

structure TI where
  kind : TK
  size : Nat
  bytes : Nat
  zero : List SV

abbrev Tmps := List (Nat × SV)
abbrev Store := List (Nat × Option SB)

structure St where
  tmps : Tmps
  store : Store
  nxt : Nat
  dirty : List Nat
  nt : Nat

def get (l : Tmps) (t : Nat) : SV :=
  match l with
  | [] => .junk
  | (u, v) :: l => bif Nat.beq u t then v else get l t

/-- The list with another value at a key. -/
def setKey (l : Tmps) (t : Nat) (v : SV) : Tmps :=
  match l with
  | [] => []
  | (u, x) :: l => bif Nat.beq u t then (u, v) :: l else (u, x) :: setKey l t v

def look (l : Store) (t : Nat) : Option SB :=
  match l with
  | [] => none
  | (u, v) :: l => bif Nat.beq u t then v else look l t

/-- One of two values. -/
def sel (b : Bool) (x y : SV) : SV :=
  match x, y with
  | .int j m, .int k n => match decide (j = k) with
    | true => .int j (bif b then m else n)
    | false => match b with
      | true => .int j m
      | false => .int k n
  | .bool m, .bool n => .bool (bif b then m else n)
  | x, y => match b with
    | true => x
    | false => y

/-- What is known of the program: its types, its functions' bodies; what is known of calls; and how far to go. -/
structure Env where
  tt : TypeId → Option TI
  ft : FuncId → Option Func
  callee : FuncId → List SV → List (Option SB) → (SV → List (Option SB) → List Nat → Prop) → Prop
  round : List SV → List (Option SB) → (SV → List (Option SB) → List Nat → Prop) → Prop := fun _ _ _ => False
  rnd : Bool := false
  view : FuncId → Bool
  unroll : Nat → Nat
  cut : Nat → Bool

/-- Two ways on. -/
def Br (c : Bool) (A B : Prop) : Prop := match c with
  | true => A
  | false => B

/-- One way on, under a condition. -/
def If (c : Bool) (A : Prop) : Prop := match c with
  | true => A
  | false => False

theorem Br.mk {c : Bool} {A B : Prop} (t : c = true → A) (f : c = false → B) : Br c A B := by
  cases c
  · exact f rfl
  · exact t rfl

theorem If.mk {c : Bool} {A : Prop} (h : c = true) (a : A) : If c A := by subst h; exact a

def ofLit : Value → SV
  | .int k n => bif decide (k.min ≤ n) && decide (n ≤ k.max) then .int k n else .junk
  | .bool b => .bool b
  | .string s => bif Nat.blt s.size 9223372036854775808 then .str s else .junk
  | .pointer none => .nilp
  | .slice none 0 0 => .nils
  | .nilFunc => .nilfn
  | .nilIface => .nilI
  | _ => .junk

def eval (l : Tmps) : Operand → SV
  | .tmp t => get l t
  | .const v => ofLit v
  | .func f => .fn (.func f) [] []
  | .global _ => .junk

def isAgg : TK → Bool
  | .struct _ => true
  | .array _ _ => true
  | _ => false

/-- A value that one cell holds. -/
def oneCell : SV → Bool
  | .junk => false
  | .agg _ => false
  | .tup _ => false
  | _ => true

def notJunk : SV → Bool
  | .junk => false
  | _ => true

/-- The cells of a value in memory. -/
def cellsOf : SV → List SV
  | .agg cs => cs
  | v => [v]

/-- A value out of its cells. -/
def ofCells (ti : TI) (cs : List SV) : Option SV :=
  bif isAgg ti.kind then (bif Nat.beq cs.length ti.size then some (.agg cs) else none)
  else match cs with
    | [c] => some c
    | _ => none

/-- Cells, written over others from a place on; none: they don't lie there. -/
def putAt (cs : List SV) (off : Nat) (vs : List SV) : Option (List SV) :=
  match off, cs with
  | 0, cs => over cs vs
  | off + 1, c :: cs => match putAt cs off vs with
    | some r => some (c :: r)
    | none => none
  | _ + 1, [] => none
termination_by structural off
where
  over : List SV → List SV → Option (List SV)
    | cs, [] => some cs
    | _ :: cs, v :: vs => match over cs vs with
      | some r => some (v :: r)
      | none => none
    | [], _ :: _ => none
  termination_by structural _ x => x

def nth (cs : List SV) (i : Nat) : SV :=
  match cs, i with
  | [], _ => .junk
  | c :: _, 0 => c
  | _ :: cs, i + 1 => nth cs i

/-- So many cells from a place on. -/
def cut (cs : List SV) (off n : Nat) : List SV := (cs.drop off).take n

/-- A row's cells, one element's: turned at one place. -/
def setRow (get : Nat → List SV) (i : Nat) (cs : List SV) : Nat → List SV :=
  fun j => go (decide (j = i)) cs (get j)
where
  go (b : Bool) : List SV → List SV → List SV
    | c :: cs, d :: ds => sel b c d :: go b cs ds
    | _, _ => []

def binInt (op : BinOp) (k : IntKind) (a b : Int) (K : SV → Prop) : Prop :=
  match op with
  | .add => K (.int k (k.wrap (a + b)))
  | .sub => K (.int k (k.wrap (a - b)))
  | .mul => K (.int k (k.wrap (a * b)))
  | .quo => If (b != 0) (K (.int k (k.wrap (a.tdiv b))))
  | .rem => If (b != 0) (K (.int k (a.tmod b)))
  | .and => K (.int k (k.wrap (BitVec.ofInt k.bits a &&& BitVec.ofInt k.bits b).toNat))
  | .or => K (.int k (k.wrap (BitVec.ofInt k.bits a ||| BitVec.ofInt k.bits b).toNat))
  | .xor => K (.int k (k.wrap (BitVec.ofInt k.bits a ^^^ BitVec.ofInt k.bits b).toNat))
  | .andNot => K (.int k (k.wrap (BitVec.ofInt k.bits a &&& ~~~BitVec.ofInt k.bits b).toNat))
  | .eql => K (.bool (a == b))
  | .neq => K (.bool (a != b))
  | .lss => K (.bool (a < b))
  | .leq => K (.bool (a ≤ b))
  | .gtr => K (.bool (a > b))
  | .geq => K (.bool (a ≥ b))
  | .shl => If (decide (0 ≤ b)) (K (.int k (k.wrap (a * 2 ^ min b.toNat k.bits))))
  | .shr => If (decide (0 ≤ b)) (K (.int k (a.fdiv (2 ^ min b.toNat k.bits))))

def eqFields (tt : TypeId → Option TI) (E : TypeId → List SV → List SV → Option Bool) : List (Nat × TypeId) → List SV → List SV → Option Bool
  | [], _, _ => some true
  | (off, t) :: fs, xs, ys =>
    match tt t with
    | none => none
    | some ti =>
      match E t (cut xs off ti.size) (cut ys off ti.size) with
      | none => none
      | some b => match fs with
        | [] => some b
        | _ => match eqFields tt E fs xs ys with
          | none => none
          | some c => some (b && c)

def eqElems (E : List SV → List SV → Option Bool) (size : Nat) : Nat → List SV → List SV → Option Bool
  | 0, _, _ => some true
  | n + 1, xs, ys =>
    match E (xs.take size) (ys.take size) with
    | none => none
    | some b => match n with
      | 0 => some b
      | _ => match eqElems E size n (xs.drop size) (ys.drop size) with
        | none => none
        | some c => some (b && c)

/-- Are two values the same? By their type's kind, part by part. -/
def eqSV (tt : TypeId → Option TI) : Nat → TypeId → List SV → List SV → Option Bool
  | 0, _, _, _ => none
  | d + 1, t, xs, ys =>
    match tt t with
    | none => none
    | some ti => match ti.kind with
      | .bool => match xs, ys with
        | [.bool a], [.bool b] => some (a == b)
        | _, _ => none
      | .int _ => match xs, ys with
        | [.int j a], [.int k b] => bif decide (j = k) then some (a == b) else none
        | _, _ => none
      | .string => match xs, ys with
        | [.str a], [.str b] => some (a == b)
        | _, _ => none
      | .struct fs => eqFields tt (eqSV tt d) fs xs ys
      | .array n e => match tt e with
        | some te => match n with
          | 0 => none
          | n + 1 => eqElems (eqSV tt d e) te.size (n + 1) xs ys
        | none => none
      | _ => none

/-- '==' and '!=' of what is the same, or not. -/
def eqE (op : BinOp) (b : Bool) (K : SV → Prop) : Prop :=
  match op with
  | .eql => K (.bool b)
  | .neq => K (.bool (!b))
  | _ => False

def kindIs (tt : TypeId → Option TI) (t : TypeId) (p : TK → Bool) : Bool :=
  match tt t with
  | some ti => p ti.kind
  | none => false

def isPtrK : TK → Bool
  | .ptr _ => true
  | _ => false
/-- A pointer to a type that is told. -/
def ptrTo (tt : TypeId → Option TI) : TK → Bool
  | .ptr e => (tt e).isSome
  | _ => false
def isBoolK : TK → Bool
  | .bool => true
  | _ => false
def isSliceK : TK → Bool
  | .slice _ => true
  | _ => false
def isFuncK : TK → Bool
  | .func => true
  | _ => false
def isIfaceK : TK → Bool
  | .iface _ => true
  | _ => false

/-- Is this surely a slice that is not nil, or surely nil? -/
def nilSlice : SV → Option Bool
  | .nils => some true
  | .emp => some false
  | .arr _ _ _ _ => some false
  | .own _ _ _ _ => some false
  | _ => none

def binOpE (tt : TypeId → Option TI) (op : BinOp) (t : TypeId) (cst : Bool) (x y : SV) (K : SV → Prop) : Prop :=
  match x, y with
  | .int j a, .int k b =>
    match op with
    | .shl => binInt .shl j a b K
    | .shr => binInt .shr j a b K
    | op => match decide (j = k) with
      | true => binInt op j a b K
      | false => False
  | .bool a, .bool b => bif kindIs tt t isBoolK then eqE op (a == b) K else False
  | .str a, .str b => match op with
    | .add => If (decide (a.size + b.size < 9223372036854775808)) (K (.str (a ++ b)))
    | op => eqE op (a == b) K
  | .nilp, .nilp => bif kindIs tt t isPtrK then eqE op true K else False
  | .ptr _ _, .nilp => bif kindIs tt t isPtrK then eqE op false K else False
  | .eptr _ _ _ _, .nilp => bif kindIs tt t isPtrK then eqE op false K else False
  | .rptr _, .nilp => bif kindIs tt t isPtrK then eqE op false K else False
  | .ptr i o, .ptr j q => bif kindIs tt t (ptrTo tt) && (Nat.beq i j && Nat.beq o q) then eqE op true K else False
  | .nilI, .nilI => bif kindIs tt t isIfaceK && cst then eqE op true K else False
  | .iface _ _, .nilI => bif kindIs tt t isIfaceK then eqE op false K else False
  | .agg xs, .agg ys => bif kindIs tt t isAgg then (match eqSV tt 12 t xs ys with
    | some b => eqE op b K
    | none => False) else False
  | .ro n _ _, .nils => bif kindIs tt t isSliceK then If (decide (0 < n)) (eqE op false K) else False
  | x, .nils => match nilSlice x with
    | some b => bif kindIs tt t isSliceK then eqE op b K else False
    | none => False
  | _, _ => False

def unOpE (op : UnOp) (x : SV) (K : SV → Prop) : Prop :=
  match op, x with
  | .neg, .int k n => K (.int k (k.wrap (0 - n)))
  | .xor, .int k n => K (.int k (k.wrap (BitVec.ofInt k.bits (if k.signed then -1 else k.max) ^^^ BitVec.ofInt k.bits n).toNat))
  | .not, .bool b => K (.bool !b)
  | _, _ => False

def convertE (tt : TypeId → Option TI) (src dst : TypeId) (x : SV) (K : SV → Prop) : Prop :=
  match tt src, tt dst with
  | some _, some ti => match ti.kind, x with
    | .int k, .int _ n => K (.int k (k.wrap n))
    | _, _ => False
  | _, _ => False

/-- Parts, written over a zero value. -/
def fillE (place : Nat → Option (Nat × Nat)) : List (Nat × SV) → List SV → Option (List SV)
  | [], cs => some cs
  | (i, v) :: r, cs => match place i with
    | none => none
    | some (off, size) =>
      bif Nat.beq (cellsOf v).length size then
        match putAt cs off (cellsOf v) with
        | some cs => fillE place r cs
        | none => none
      else none

def fieldPlace (tt : TypeId → Option TI) (fs : List (Nat × TypeId)) (i : Nat) : Option (Nat × Nat) :=
  match fs[i]? with
  | some (off, t) => match tt t with
    | some ti => some (off, ti.size)
    | none => none
  | none => none

def repeatCells (zero : List SV) : Nat → List SV
  | 0 => []
  | n + 1 => zero ++ repeatCells zero n

/-- The blocks that a value names. -/
def ids : SV → List Nat
  | .ptr id _ => [id]
  | .eptr id _ _ _ => [id]
  | .arr id _ _ _ => [id]
  | .own id _ _ _ => [id]
  | .fn _ a b => idsL a ++ idsL b
  | .agg cs => idsL cs
  | .tup cs => idsL cs
  | .iface _ v => ids v
  | .yld id => [id]
  | _ => []
where idsL : List SV → List Nat
  | [] => []
  | v :: l => ids v ++ idsL l

def idsT : List (Nat × SV) → List Nat
  | [] => []
  | (_, v) :: r => ids v ++ idsT r

def idsB : SB → List Nat
  | .cells _ cs => ids.idsL cs
  | .lst _ cs => ids.idsL cs
  | .row _ _ _ _ => []
  | .loop tm _ _ _ _ _ => idsT tm
  | .iter _ _ => []

/-- All blocks that are reached. -/
def reach (s : Store) : Nat → List Nat → List Nat → List Nat
  | 0, _, acc => acc
  | _ + 1, [], acc => acc
  | n + 1, i :: l, acc =>
    bif acc.any (Nat.beq i) then reach s n l acc
    else match look s i with
      | some sb => reach s n (idsB sb ++ l) (acc ++ [i])
      | none => reach s n l acc

def idx (l : List Nat) (i : Nat) (k : Nat) : Option Nat :=
  match l with
  | [] => none
  | j :: l => bif Nat.beq j i then some k else idx l i (k + 1)

/-- A value with other names for its blocks. -/
def ren (f : Nat → Option Nat) : SV → SV
  | .ptr id off => match f id with
    | some j => .ptr j off
    | none => .junk
  | .eptr id i st o => match f id with
    | some j => .eptr j i st o
    | none => .junk
  | .arr id a b c => match f id with
    | some j => .arr j a b c
    | none => .junk
  | .own id o a b => match f id with
    | some j => .own j o a b
    | none => .junk
  | .fn g a b => .fn g (renL a) (renL b)
  | .agg cs => .agg (renL cs)
  | .tup cs => .tup (renL cs)
  | .iface t v => .iface t (ren f v)
  | .yld id => match f id with
    | some j => .yld j
    | none => .junk
  | v => v
where renL : List SV → List SV
  | [] => []
  | v :: l => ren f v :: renL l

def renT (f : Nat → Option Nat) : List (Nat × SV) → List (Nat × SV)
  | [] => []
  | (t, v) :: r => (t, ren f v) :: renT f r

def renB (f : Nat → Option Nat) : SB → SB
  | .cells e cs => .cells e (ren.renL f cs)
  | .lst e cs => .lst e (ren.renL f cs)
  | .row e st n g => .row e st n g
  | .loop tm nt ps a b p => .loop (renT f tm) nt ps a b p
  | .iter s p => .iter s p

/-- The name that a block of a call has for its caller. -/
def backName (F : List Nat) (nxt : Nat) (p : Nat) : Option Nat :=
  match F[p]? with
  | some i => some i
  | none => some (nxt + (p - F.length))

/-- What a call has done to the caller's blocks: those that it has turned, and those that are new. -/
def backStore (f : Nat → Option Nat) (F : List Nat) (nxt : Nat) (dirty : List Nat) : Nat → List (Option SB) → Store
  | _, [] => []
  | p, b :: l =>
    let r := backStore f F nxt dirty (p + 1) l
    match F[p]? with
    | some i => bif dirty.any (Nat.beq p) then (i, b.map (renB f)) :: r else r
    | none => (nxt + (p - F.length), b.map (renB f)) :: r

def noRo : SV → Bool
  | .ro _ _ _ => false
  | .rptr _ => false
  | .fn _ a b => noRoL a && noRoL b
  | .agg cs => noRoL cs
  | .tup cs => noRoL cs
  | .iface _ v => noRo v
  | _ => true
where noRoL : List SV → Bool
  | [] => true
  | v :: l => noRo v && noRoL l

abbrev KV := SV → Store → Nat → List Nat → List Nat → Prop

/-- What a call leaves, by the caller's names. -/
def backE (st : St) (F : List Nat) (K : KV) : SV → List (Option SB) → List Nat → Prop := fun v σ d =>
  let g := backName F st.nxt
  K (ren g v) (backStore g F st.nxt d 0 σ) (st.nxt + (σ.length - F.length)) F (d.filterMap fun p => F[p]?)

def callE (env : Env) (st : St) (k : FuncId) (xs : List SV) (K : KV) : Prop :=
  let F := reach st.store 200 (ids.idsL xs) []
  let f := fun i => idx F i 0
  env.callee k (ren.renL f xs) (F.map fun i => (look st.store i).map (renB f)) (backE st F K)

/-- A round of a range over a function: its record is the first block. -/
def yieldE (env : Env) (st : St) (id : Nat) (xs : List SV) (K : KV) : Prop :=
  match look st.store id with
  | some (.loop _ _ _ _ _ _) =>
    let F := reach st.store 200 (id :: ids.idsL xs) []
    let f := fun i => idx F i 0
    env.round (ren.renL f xs) (F.map fun i => (look st.store i).map (renB f)) (backE st F K)
  | _ => False

def maxL (k : IntKind) (up : Bool) : Int → List SV → Option Int
  | a, [] => some a
  | a, .int j b :: l => bif decide (j = k) then maxL k up (bif up then (if b > a then b else a) else (if b < a then b else a)) l else none
  | _, _ => none

def isStringK : TK → Bool
  | .string => true
  | _ => false

/-- What is appended: how many, the cells, which block is read. -/
def srcE (st : St) (size : Nat) (x : SV) : Option (Nat × List SV × List Nat) :=
  match x with
  | .nils => some (0, [], [])
  | .emp => some (0, [], [])
  | .arr id off len _ => match look st.store id with
    | some (.cells _ cs) => bif Nat.beq (cut cs off (len * size)).length (len * size) && (cut cs off (len * size)).all oneCell then some (len, cut cs off (len * size), [id]) else none
    | _ => none
  | .own id off st' len => match look st.store id with
    | some (.lst _ cs) => bif Nat.beq st' size && (Nat.beq (cut cs (off * size) (len * size)).length (len * size) && (cut cs (off * size) (len * size)).all oneCell) then some (len, cut cs (off * size) (len * size), [id]) else none
    | _ => none
  | _ => none

/-- A row's cells, one element's turned. -/
def rowPut (i : Nat) (c : List SV) (g : Nat → List SV) : Nat → List SV := fun j => bif decide (j = i) then c else g j

/-- A row that is appended: how many, its cells, which block is read. -/
def rowOf (st : St) (size : Nat) (x : SV) : Option (Nat × (Nat → List SV) × List Nat × Bool) :=
  match x with
  | .ro n sz g => bif Nat.beq sz size then some (n, g, [], true) else none
  | .own id 0 sz n => match look st.store id with
    | some (.row _ sz' len g) => bif Nat.beq sz size && Nat.beq sz' size then some (n, g, [id], decide (n ≤ len)) else none
    | _ => none
  | _ => none

/-- A row behind another one. -/
def catR (len : Nat) (g h : Nat → List SV) : Nat → List SV := fun i => bif Nat.blt i len then g i else h (i - len)

/-- What one's own row holds: its cells, its length. -/
def ownRow (st : St) (e sz id : Nat) : Option ((Nat → List SV) × Nat) :=
  match look st.store id with
  | some (.row e' sz' len' g) => bif Nat.beq e' e && Nat.beq sz' sz then some (g, len') else none
  | some (.lst e' cs) => bif Nat.beq e' e && ((ids.idsL cs).isEmpty && Nat.beq (cs.length % sz) 0) then some (fun i => cut cs (i * sz) sz, cs.length / sz) else none
  | _ => none

/-- A text's bytes, as a row. -/
def strG (s : ByteArray) : Nat → List SV := fun i => [.int .u8 (s.data.getD i 0).toNat]

def appendR (st : St) (e : TypeId) (te : TI) (s : SV) (R : Option (Nat × (Nat → List SV) × List Nat × Bool)) (K : KV) : Prop :=
  match R with
  | none => False
  | some (n, h, rd, ok) => match s with
    | .nils => (∀ i, i < n → (h i).length = te.size ∧ (h i).all oneCell = true) ∧ If (ok && (decide (n * te.bytes ≤ 1099511627776) && decide (n < 9223372036854775808)))
        (Br (decide (0 < n)) (K (.own st.nxt 0 te.size n) [(st.nxt, some (.row e te.size n h))] (st.nxt + 1) rd []) (K .nils [] st.nxt rd []))
    | .arr id off 0 0 => (∀ i, i < n → (h i).length = te.size ∧ (h i).all oneCell = true) ∧ If (ok && (decide (n * te.bytes ≤ 1099511627776) && decide (n < 9223372036854775808)))
        (Br (decide (0 < n)) (K (.own st.nxt 0 te.size n) [(st.nxt, some (.row e te.size n h))] (st.nxt + 1) rd []) (K (.arr id off 0 0) [] st.nxt rd []))
    | .own id 0 sz len => bif Nat.beq sz te.size && !(rd.any (Nat.beq id)) then (match ownRow st e sz id with
      | some (g, len') => (∀ i, i < n → (h i).length = te.size ∧ (h i).all oneCell = true) ∧
          If ((ok && decide (len' = len)) && (decide ((len + n) * te.bytes ≤ 1099511627776) && decide (len + n < 9223372036854775808)))
          (K (.own st.nxt 0 sz (len + n)) [(id, none), (st.nxt, some (.row e sz (len + n) (catR len g h)))] (st.nxt + 1) (id :: rd) [id])
      | none => False) else False
    | _ => False

def appendE (env : Env) (t u : TypeId) (s x : SV) (st : St) (K : KV) : Prop :=
  match env.tt t, env.tt u with
  | some ti, some tu => match ti.kind, tu.kind with
    | .slice e, .slice _ => match env.tt e with
      | some te => bif Nat.beq te.zero.length te.size && Nat.blt 0 te.size then (match srcE st te.size x with
        | some (n, c, rd) => match s with
          | .nils => match n with
            | 0 => K .nils [] st.nxt rd []
            | n + 1 => If (decide ((n + 1) * te.bytes ≤ 1099511627776) && decide (n + 1 < 9223372036854775808)) (K (.own st.nxt 0 te.size (n + 1)) [(st.nxt, some (.lst e c))] (st.nxt + 1) rd [])
          | .arr id off 0 0 => match n with
            | 0 => K (.arr id off 0 0) [] st.nxt rd []
            | n + 1 => If (decide ((n + 1) * te.bytes ≤ 1099511627776) && decide (n + 1 < 9223372036854775808)) (K (.own st.nxt 0 te.size (n + 1)) [(st.nxt, some (.lst e c))] (st.nxt + 1) rd [])
          | .own id 0 sz len => bif Nat.beq sz te.size && !(rd.any (Nat.beq id)) then (match look st.store id with
            | some (.lst e' cs) => bif Nat.beq e' e then
                If ((decide ((len + n) * te.bytes ≤ 1099511627776) && decide (len + n < 9223372036854775808)) && decide (cs.length = len * sz)) (K (.own st.nxt 0 sz (len + n)) [(id, none), (st.nxt, some (.lst e (cs ++ c)))] (st.nxt + 1) (id :: rd) [id])
              else False
            | some (.row e' sz' len' g) => bif Nat.beq e' e && (Nat.beq sz' sz && (Nat.beq n 1 && (ids.idsL c).isEmpty)) then
                If ((decide ((len + 1) * te.bytes ≤ 1099511627776) && decide (len + 1 < 9223372036854775808)) && decide (len' = len)) (K (.own st.nxt 0 sz (len + 1)) [(id, none), (st.nxt, some (.row e sz (len + 1) (rowPut len c g)))] (st.nxt + 1) (id :: rd) [id])
              else False
            | _ => False) else False
          | _ => False
        | none => appendR st e te s (rowOf st te.size x) K) else False
      | none => False
    | .slice e, .string => match env.tt e, x with
      | some te, .str y => bif Nat.beq te.zero.length te.size && Nat.beq te.size 1 then appendR st e te s (some (y.size, strG y, [], true)) K else False
      | _, _ => False
    | _, _ => False
  | _, _ => False

def clearE (env : Env) (t : TypeId) (x : SV) (st : St) (K : KV) : Prop :=
  match env.tt t with
  | some ti => match ti.kind, x with
    | .slice _, .ro 0 _ _ => K (.tup []) [] st.nxt [] []
    | .slice e, .own id _ sz _ => match env.tt e with
      | some te => bif Nat.beq sz te.size && (Nat.beq te.zero.length te.size && te.zero.all oneCell) && Nat.blt 0 te.size then (match look st.store id with
        | some _ => K (.tup []) [(id, none)] st.nxt [] [id]
        | none => False) else False
      | none => False
    | _, _ => False
  | none => False

/-- A row over a part of another one. -/
def overR (off n : Nat) (h g : Nat → List SV) : Nat → List SV := fun i => bif Nat.ble off i && Nat.blt i (off + n) then h (i - off) else g i
/-- A row that is read: how many, its cells, the block that is read; so it is under this condition. -/
def rowAt (st : St) (size : Nat) (x : SV) : Option (Nat × (Nat → List SV) × List Nat × Bool) :=
  match x with
  | .arr id 0 n _ => match look st.store id with
    | some (.cells _ cs) => bif (ids.idsL cs).isEmpty then some (n, fun i => cut cs (i * size) size, [id], decide (n * size ≤ cs.length)) else none
    | _ => none
  | .own id off sz n => match look st.store id with
    | some (.row _ sz' len g) => bif Nat.beq sz size && Nat.beq sz' size then some (n, fun i => g (i + off), [id], decide (off + n ≤ len)) else none
    | _ => none
  | _ => none

/-- A text's bytes, as cells. -/
def strCells (s : ByteArray) (n : Nat) : List SV := (s.data.toList.take n).map fun b => .int .u8 b.toNat

def copyE (env : Env) (t u : TypeId) (x y : SV) (st : St) (K : KV) : Prop :=
  match env.tt t, env.tt u with
  | some ti, some tu => match ti.kind, tu.kind, x, y with
    | .slice e, .string, .arr id off len _, .str s => match env.tt e with
      | some te => bif Nat.beq te.size 1 then (match look st.store id with
        | some (.cells e' cs) => match putAt cs off (strCells s len) with
          | some cs' => K (.int .i64 (Nat.min s.size len)) [(id, some (.cells e' cs'))] st.nxt [] [id]
          | none => False
        | _ => False) else False
      | none => False
    | .slice e, .slice _, .own id off sz len, y => match env.tt e with
      | some te => bif Nat.beq sz te.size then (match look st.store id, rowAt st sz y with
        | some (.row e' sz' len' g), some (n, h, rd, c) => bif Nat.beq sz' sz then
            (∀ i, i < n → (h i).length = sz ∧ (h i).all oneCell = true) ∧
            If (c && decide (off + len ≤ len')) (K (.int .i64 (Nat.min n len)) [(id, some (.row e' sz len' (overR off (Nat.min n len) h g)))] st.nxt rd [id]) else False
        | _, _ => False) else False
      | none => False
    | _, _, _, _ => False
  | _, _ => False

/-- A text's bytes. -/
def bytesOf (l : List Int) : ByteArray := ⟨(l.map fun n => UInt8.ofNat n.toNat).toArray⟩

/-- A byte in a row. -/
def isByte : List SV → Bool
  | [.int .u8 _] => true
  | _ => false
def byteN : List SV → Int
  | [.int .u8 n] => n
  | _ => 0
/-- A row's bytes. -/
def rowB (len : Nat) (g : Nat → List SV) : List Int := (List.range len).map fun i => byteN (g i)

/-- The pointer to a row's first element. -/
def sliceDataE (t : SV) (K : SV → Prop) : Prop :=
  match t with
  | .nils => K .nilp
  | .own id 0 _ n => If (decide (0 < n)) (K (.ptr id 0))
  | _ => False

/-- So many bytes behind a pointer, as a text; they may be written no more. -/
def unsafeStringE (env : Env) (t : TypeId) (p n : SV) (st : St) (K : KV) : Prop :=
  match p, n with
  | .nilp, .int _ n => If (decide (n = 0)) (K (.str .empty) [] st.nxt [] [])
  | .ptr id 0, .int .i64 n => match env.tt t with
    | some ti => match ti.kind with
      | .ptr e => match look st.store id with
        | some (.row e' sz len g) => bif Nat.beq sz 1 && (Nat.beq e' e && (match env.tt e with | some te => Nat.beq te.size 1 | none => false)) then
            (∀ i, i < n.toNat → isByte (g i) = true) ∧ If (decide (0 < n) && decide (n ≤ len) && decide (n < 9223372036854775808)) (K (.str (bytesOf (rowB n.toNat g))) [(id, none)] st.nxt [id] [id])
            else False
        | _ => False
      | _ => False
    | none => False
  | _, _ => False

def builtinE (env : Env) (b : Builtin) (ts : List TypeId) (xs : List SV) (st : St) (K : KV) : Prop :=
  match b, ts, xs with
  | .append, t :: u :: _, [s, x] => appendE env t u s x st K
  | .clear, t :: _, [x] => clearE env t x st K
  | .copy, t :: u :: _, [x, y] => copyE env t u x y st K
  | .len, t :: _, [x] => match x with
    | .ro n _ _ => bif kindIs env.tt t isSliceK then K (.int .i64 n) [] st.nxt [] [] else False
    | .own _ _ _ n => bif kindIs env.tt t isSliceK then K (.int .i64 n) [] st.nxt [] [] else False
    | .arr _ _ n _ => bif kindIs env.tt t isSliceK then K (.int .i64 n) [] st.nxt [] [] else False
    | .nils => bif kindIs env.tt t isSliceK then K (.int .i64 0) [] st.nxt [] [] else False
    | .emp => bif kindIs env.tt t isSliceK then K (.int .i64 0) [] st.nxt [] [] else False
    | .str s => bif kindIs env.tt t isStringK then K (.int .i64 s.size) [] st.nxt [] [] else False
    | _ => False
  | .max, _, .int k a :: l => match maxL k true a l with
    | some n => K (.int k n) [] st.nxt [] []
    | none => False
  | .min, _, .int k a :: l => match maxL k false a l with
    | some n => K (.int k n) [] st.nxt [] []
    | none => False
  | .unsafeSliceData, _, [x] => sliceDataE x fun v => K v [] st.nxt [] []
  | .unsafeString, [t, _], [p, n] => unsafeStringE env t p n st K
  | _, _, _ => False

def loadE (env : Env) (t : TypeId) (p : SV) (st : St) (K : KV) : Prop :=
  match env.tt t with
  | none => False
  | some ti => match p with
    | .ptr id off => match look st.store id with
      | some (.cells _ cs) => match ofCells ti (cut cs off ti.size) with
        | some v => K v [] st.nxt [id] []
        | none => False
      | some (.lst _ cs) => bif Nat.blt 0 ti.size && Nat.beq (cut cs off ti.size).length ti.size then (match ofCells ti (cut cs off ti.size) with
        | some v => K v [] st.nxt [id] []
        | none => False) else False
      | _ => False
    | .eptr id i sz o => match look st.store id with
      | some (.cells _ cs) => match ofCells ti (cut cs (i * sz + o) ti.size) with
        | some v => K v [] st.nxt [id] []
        | none => False
      | some (.lst _ cs) => bif Nat.blt 0 ti.size && Nat.beq (cut cs (i * sz + o) ti.size).length ti.size then (match ofCells ti (cut cs (i * sz + o) ti.size) with
        | some v => K v [] st.nxt [id] []
        | none => False) else False
      | some (.row _ sz' len g) => bif Nat.beq sz' sz && (Nat.blt 0 ti.size && Nat.beq (cut (g i) o ti.size).length ti.size) then If (decide (i < len)) (match ofCells ti (cut (g i) o ti.size) with
        | some v => K v [] st.nxt [id] []
        | none => False) else False
      | _ => False
    | .rptr cs => match ofCells ti (cs.take ti.size) with
      | some v => K v [] st.nxt [] []
      | none => False
    | _ => False

def storeE (env : Env) (t : TypeId) (p v : SV) (st : St) (K : KV) : Prop :=
  match env.tt t with
  | none => False
  | some ti => match p with
    | .ptr id off => match look st.store id with
      | some (.cells e cs) =>
        bif Nat.beq (cellsOf v).length ti.size && (cellsOf v).all oneCell then
          match putAt cs off (cellsOf v) with
          | some cs' => K (.tup []) [(id, some (.cells e cs'))] st.nxt [] [id]
          | none => False
        else False
      | some (.lst e cs) =>
        bif Nat.beq (cellsOf v).length ti.size && (cellsOf v).all oneCell then
          match putAt cs off (cellsOf v) with
          | some cs' => K (.tup []) [(id, some (.lst e cs'))] st.nxt [] [id]
          | none => False
        else False
      | _ => False
    | .eptr id i sz o => match look st.store id with
      | some (.lst e cs) =>
        bif Nat.beq (cellsOf v).length ti.size && (cellsOf v).all oneCell then
          match putAt cs (i * sz + o) (cellsOf v) with
          | some cs' => K (.tup []) [(id, some (.lst e cs'))] st.nxt [] [id]
          | none => False
        else False
      | some (.row e sz' len g) =>
        bif Nat.beq sz' sz && (Nat.beq (cellsOf v).length ti.size && ((cellsOf v).all oneCell && (ids.idsL (cellsOf v)).isEmpty)) then
          match putAt (g i) o (cellsOf v) with
          | some cs' => If (decide (i < len)) (K (.tup []) [(id, some (.row e sz' len (rowPut i cs' g)))] st.nxt [] [id])
          | none => False
        else False
      | _ => False
    | _ => False

def buildE (env : Env) (t : TypeId) (parts : List (Nat × SV)) (K : SV → Prop) : Prop :=
  bif parts.all (fun q => notJunk q.2) then
  match env.tt t with
  | none => False
  | some ti => match ti.kind with
    | .struct fs => match fillE (fieldPlace env.tt fs) parts ti.zero with
      | some cs => K (.agg cs)
      | none => False
    | .array _ e => match env.tt e with
      | some te => match fillE (fun i => some (i * te.size, te.size)) parts ti.zero with
        | some cs => K (.agg cs)
        | none => False
      | none => False
    | _ => False
  else False

def buildSliceE (env : Env) (t : TypeId) (len : Nat) (parts : List (Nat × SV)) (st : St) (K : KV) : Prop :=
  bif parts.all (fun q => notJunk q.2) then
  match env.tt t with
  | none => False
  | some ti => match ti.kind with
    | .slice e => match env.tt e with
      | some te =>
        bif Nat.ble (len * te.size) 16777216 && Nat.beq te.zero.length te.size then
          match fillE (fun i => some (i * te.size, te.size)) parts (repeatCells te.zero len) with
          | some cs => If (decide (len < 9223372036854775808)) (K (.arr st.nxt 0 len len) [(st.nxt, some (.cells e cs))] (st.nxt + 1) [] [])
          | none => False
        else False
      | none => False
    | _ => False
  else False

def fieldAddrE (env : Env) (s : TypeId) (p : SV) (f : Nat) (K : SV → Prop) : Prop :=
  match env.tt s with
  | none => False
  | some ti => match ti.kind with
    | .struct fs => match fieldPlace env.tt fs f with
      | some (off, size) => match size with
        | 0 => False
        | _ + 1 => match p with
          | .ptr id o => K (.ptr id (o + off))
          | .eptr id i sz o => K (.eptr id i sz (o + off))
          | .rptr cs => K (.rptr (cs.drop off))
          | _ => False
      | none => False
    | _ => False

def indexAddrE (env : Env) (t : TypeId) (x i : SV) (K : SV → Prop) : Prop :=
  match env.tt t, i with
  | some ti, .int _ n => match ti.kind with
    | .array len e => match env.tt e with
      | some te => match x with
        | .ptr id off => If (decide (0 ≤ n) && decide (n < len)) (K (.ptr id (off + n.toNat * te.size)))
        | _ => False
      | none => False
    | .slice e => match env.tt e with
      | some te => match x with
        | .ro len st get => match Nat.beq st te.size with
          | true => If (decide (0 ≤ n) && decide (n < len)) (K (.rptr (get n.toNat)))
          | false => False
        | .arr id off len _ => If (decide (0 ≤ n) && decide (n < len)) (K (.ptr id (off + n.toNat * te.size)))
        | .own id off sz len => bif Nat.beq sz te.size then If (decide (0 ≤ n) && decide (n < len)) (K (.eptr id (off + n.toNat) sz 0)) else False
        | _ => False
      | none => False
    | _ => False
  | _, _ => False

def fieldE (env : Env) (t : TypeId) (x : SV) (f : Nat) (K : SV → Prop) : Prop :=
  match env.tt t, x with
  | some ti, .agg cs => match ti.kind with
    | .struct fs => match fs[f]? with
      | some (off, u) => match env.tt u with
        | some tu => match ofCells tu (cut cs off tu.size) with
          | some v => K v
          | none => False
        | none => False
      | none => False
    | _ => False
  | _, _ => False

def indexE (env : Env) (t : TypeId) (x i : SV) (K : SV → Prop) : Prop :=
  match env.tt t, i with
  | some ti, .int _ n => match ti.kind, x with
    | .array len e, .agg cs => match env.tt e with
      | some te => If (decide (0 ≤ n) && decide (n < len)) (match ofCells te (cut cs (n.toNat * te.size) te.size) with
        | some v => K v
        | none => False)
      | none => False
    | .string, .str s => If (decide (0 ≤ n) && decide (n < s.size)) (K (.int .u8 (s.data.getD n.toNat 0).toNat))
    | _, _ => False
  | _, _ => False

/-- Numbers of bytes out of cells. -/
def byteCells : List SV → Option (List Int)
  | [] => some []
  | .int .u8 n :: l => match byteCells l with
    | some r => some (n :: r)
    | none => none
  | _ => none

/-- A text of bytes. -/
def bytesE (env : Env) (src dst : TypeId) (id off len : Nat) (st : St) (K : KV) : Prop :=
  match env.tt src, env.tt dst with
  | some ts, some td => match ts.kind, td.kind with
    | .slice e, .string => match env.tt e with
      | some te => match te.kind with
        | .int .u8 => match look st.store id with
          | some (.cells _ cs) => match byteCells (cut cs off len) with
            | some l => bif Nat.beq l.length len then If (decide (len < 9223372036854775808)) (K (.str (bytesOf l)) [] st.nxt [id] []) else False
            | none => False
          | _ => False
        | _ => False
      | none => False
    | _, _ => False
  | _, _ => False

/-- A bound of a slice: what is said, or else. -/
def boundE (x : Option SV) (d : Nat) : Option Int :=
  match x with
  | none => some d
  | some (.int _ n) => some n
  | some _ => none

def sliceE (env : Env) (t : TypeId) (x : SV) (low high : Option SV) (K : SV → Prop) : Prop :=
  match env.tt t with
  | none => False
  | some ti => match ti.kind, x with
    | .string, .str s => match boundE low 0, boundE high s.size with
      | some l, some h => If (decide (0 ≤ l) && (decide (l ≤ h) && decide (h ≤ s.size))) (K (.str (s.extract l.toNat h.toNat)))
      | _, _ => False
    | .slice e, .arr id off len cap => match env.tt e with
      | some te => match boundE low 0, boundE high len with
        | some l, some h => If (decide (0 ≤ l) && (decide (l ≤ h) && decide (h ≤ cap)) && decide (cap < 9223372036854775808)) (K (.arr id (bif Nat.beq cap l.toNat then off else off + l.toNat * te.size) (h.toNat - l.toNat) (cap - l.toNat)))
        | _, _ => False
      | none => False
    | .slice e, .ro len st get => match env.tt e with
      | some te => match boundE low 0, boundE high len with
        | some l, some h => match Nat.beq st te.size with
          | true => If (decide (0 ≤ l) && (decide (l ≤ h) && decide (h ≤ len))) (K (.ro (h.toNat - l.toNat) st (fun i => get (i + l.toNat))))
          | false => False
        | _, _ => False
      | none => False
    | .slice e, .own id off sz len => match env.tt e with
      | some te => match boundE low 0, boundE high len with
        | some l, some h => match Nat.beq sz te.size with
          | true => If (decide (0 ≤ l) && (decide (l ≤ h) && decide (h ≤ len)) && decide (len < 9223372036854775808)) (match decide (l < h) with
            | true => K (.own id (off + l.toNat) sz (h.toNat - l.toNat))
            | false => K (.ro 0 sz (fun _ => [])))
          | false => False
        | _, _ => False
      | none => False
    | .array n e, .ptr id off => match env.tt e with
      | some te => match boundE low 0, boundE high n with
        | some l, some h => If (decide (0 ≤ l) && (decide (l ≤ h) && decide (h ≤ n)) && decide (n < 9223372036854775808)) (K (.arr id (bif Nat.beq n l.toNat then off else off + l.toNat * te.size) (h.toNat - l.toNat) (n - l.toNat)))
        | _, _ => False
      | none => False
    | _, _ => False

/-- A row of which less may be used. -/
def slice3E (env : Env) (t : TypeId) (x : SV) (low high : Option SV) (mx : SV) (K : SV → Prop) : Prop :=
  match env.tt t with
  | none => False
  | some ti => match ti.kind, x with
    | .slice e, .ro len st get => match env.tt e with
      | some te => match boundE low 0, high, mx with
        | some l, some (.int _ h), .int _ m => match Nat.beq st te.size with
          | true => If (decide (0 ≤ l) && (decide (l ≤ h) && (decide (h ≤ m) && decide (m ≤ len)))) (K (.ro (h.toNat - l.toNat) st (fun i => get (i + l.toNat))))
          | false => False
        | _, _, _ => False
      | none => False
    | _, _ => False

/-- So many elements' cells, one behind the other. -/
def flatR (g : Nat → List SV) : Nat → List SV
  | 0 => []
  | n + 1 => flatR g n ++ g n
def allLen (g : Nat → List SV) (st : Nat) : Nat → Bool
  | 0 => true
  | n + 1 => Nat.beq (g n).length st && allLen g st n

/-- A row's address, as an array's. -/
def arrayAtE (env : Env) (t : TypeId) (x : SV) (K : SV → Prop) : Prop :=
  match env.tt t, x with
  | some ti, .ro len st get => match ti.kind with
    | .array n _ => bif Nat.blt 0 n && allLen get st n then If (decide (n ≤ len)) (K (.rptr (flatR get n))) else False
    | _ => False
  | _, _ => False

/-- A new row of noughts. -/
def makeSliceE (env : Env) (t : TypeId) (n c : SV) (st : St) (K : KV) : Prop :=
  match env.tt t, n, c with
  | some ti, .int _ a, .int _ b => match ti.kind with
    | .slice e => match env.tt e with
      | some te => bif Nat.beq te.zero.length te.size && Nat.blt 0 te.size then If (decide (0 ≤ a) && (decide (a ≤ b) && (decide (b * te.bytes ≤ 1099511627776) && decide (b < 9223372036854775808))))
          (K (.own st.nxt 0 te.size a.toNat) [(st.nxt, some (.row e te.size a.toNat (fun _ => te.zero)))] (st.nxt + 1) [] []) else False
      | none => False
    | _ => False
  | _, _, _ => False

/-- Is it so that bytes are made a text? -/
def toText (env : Env) (src dst : TypeId) : Bool :=
  match env.tt src, env.tt dst with
  | some ts, some td => match ts.kind, td.kind with
    | .slice e, .string => match env.tt e with
      | some te => match te.kind with
        | .int .u8 => true
        | _ => false
      | none => false
    | _, _ => false
  | _, _ => false

/-- A text of a row's bytes. -/
def bytesRE (env : Env) (src dst : TypeId) (len sz : Nat) (g : Nat → List SV) (st : St) (K : KV) : Prop :=
  bif toText env src dst && Nat.beq sz 1 then
    (∀ i, i < len → isByte (g i) = true) ∧ If (decide (len < 9223372036854775808)) (K (.str (bytesOf (rowB len g))) [] st.nxt [] [])
  else False

/-- A text of one's own row's bytes. -/
def bytesOE (env : Env) (src dst : TypeId) (id sz len : Nat) (st : St) (K : KV) : Prop :=
  bif toText env src dst && Nat.beq sz 1 then
    (match look st.store id with
    | some (.row _ sz' len' g) => bif Nat.beq sz' 1 then
        (∀ i, i < len → isByte (g i) = true) ∧ If (decide (len < 9223372036854775808) && decide (len ≤ len')) (K (.str (bytesOf (rowB len g))) [] st.nxt [id] []) else False
    | _ => False)
  else False

/-- A pointer, seen as an unsafe.Pointer, or back again. -/
def unsafeE (env : Env) (src dst : TypeId) (id off : Nat) (st : St) (K : KV) : Prop :=
  match env.tt src, env.tt dst, look st.store id with
  | some ts, some td, some (.cells e cs) => match ts.kind, td.kind with
    | .ptr e', .other => match env.tt e' with
      | some te => bif Nat.blt 0 te.size && Nat.blt off cs.length then K (.ptr id off) [] st.nxt [id] [] else False
      | none => False
    | .other, .ptr e' => match env.tt e' with
      | some te => bif Nat.beq e e' && (Nat.beq off 0 && (Nat.beq cs.length te.size && Nat.blt 0 te.size)) then K (.ptr id 0) [] st.nxt [id] [] else False
      | none => False
    | _, _ => False
  | _, _, _ => False

/-- A walk over a text. -/
def rangeE (env : Env) (t : TypeId) (x : SV) (st : St) (K : KV) : Prop :=
  match x with
  | .str s => bif kindIs env.tt t isStringK then K (.ptr st.nxt 0) [(st.nxt, some (.iter s 0))] (st.nxt + 1) [] [] else False
  | _ => False
def nextE (p : SV) (st : St) (K : KV) : Prop :=
  match p with
  | .ptr id 0 => match look st.store id with
    | some (.iter s pos) => Br (decide (pos < s.size)) (K (.tup [.bool true, .int .i64 pos, .int .i32 (Utf8.decode s pos).1]) [(id, some (.iter s (pos + (Utf8.decode s pos).2)))] st.nxt [id] [id])
        (K (.tup [.bool false]) [] st.nxt [id] [])
    | _ => False
  | _ => False

def isConst : Operand → Bool
  | .const _ => true
  | _ => false

/-- An operation: its value, what it has turned, and which blocks it has read, and written. -/
def evalOp (env : Env) (st : St) (op : Op) (K : KV) : Prop :=
  let e := eval st.tmps
  let p : (SV → Prop) := fun v => K v [] st.nxt [] []
  match op with
  | .move x => p (e x)
  | .assign x => p (e x)
  | .pick c a b => match e c with
    | .bool c => p (sel c (e a) (e b))
    | _ => False
  | .alloc t => match env.tt t with
    | some ti => K (.ptr st.nxt 0) [(st.nxt, some (.cells t ti.zero))] (st.nxt + 1) [] []
    | none => False
  | .box t x => match e x with
    | .junk => False
    | v => K (.ptr st.nxt 0) [(st.nxt, some (.cells t (cellsOf v)))] (st.nxt + 1) [] []
  | .build t ps => buildE env t (ps.toList.map fun q => (q.1, e q.2)) p
  | .buildSlice t n ps => buildSliceE env t n (ps.toList.map fun q => (q.1, e q.2)) st K
  | .load t a => loadE env t (e a) st K
  | .store t a x => storeE env t (e a) (e x) st K
  | .nilCheck x => match e x with
    | .ptr i o => p (.ptr i o)
    | .eptr id i sz o => p (.eptr id i sz o)
    | .rptr cs => p (.rptr cs)
    | _ => False
  | .binOp op t x y _ => binOpE env.tt op t (isConst x || isConst y) (e x) (e y) p
  | .unOp op _ x => unOpE op (e x) p
  | .convert src dst x => match e x with
    | .arr id off len _ => bytesE env src dst id off len st K
    | .ro len sz g => bytesRE env src dst len sz g st K
    | .nils => bytesRE env src dst 0 1 (fun _ => []) st K
    | .own id 0 sz len => bytesOE env src dst id sz len st K
    | .ptr id off => unsafeE env src dst id off st K
    | v => convertE env.tt src dst v p
  | .slice t x lo hi mx => match mx with
    | none => sliceE env t (e x) (lo.map e) (hi.map e) p
    | some m => slice3E env t (e x) (lo.map e) (hi.map e) (e m) p
  | .sliceToArrayPointer t x => arrayAtE env t (e x) p
  | .makeSlice t n c => makeSliceE env t (e n) (e c) st K
  | .makeFunc f a b => p (.fn f (a.toList.map e) (b.toList.map e))
  | .fieldAddr s x f => fieldAddrE env s (e x) f p
  | .field s x f => fieldE env s (e x) f p
  | .indexAddr t x i => indexAddrE env t (e x) (e i) p
  | .index t x i => indexE env t (e x) (e i) p
  | .range t x => rangeE env t (e x) st K
  | .next x b => bif b then nextE (e x) st K else False
  | .extract x i => match e x with
    | .tup vs => match vs[i]? with
      | some v => p v
      | none => False
    | _ => False
  | .makeInterface t x => match env.tt t with
    | some ti => bif isIfaceK ti.kind then False else p (.iface t (e x))
    | none => False
  | .call c => match c.callee with
    | .value f => match e f with
      | .fn (.func k) first cap => callE env st k (first ++ c.args.toList.map e ++ cap) K
      | .yld id => yieldE env st id (c.args.toList.map e) K
      | _ => False
    | .builtin b => builtinE env b c.argTypes.toList (c.args.toList.map e) st K
    | _ => False
  | _ => False

/-- What an operation of a region has done: its number, its name, its value, the blocks. -/
structure Rec where
  i : Nat
  dst : Option Nat
  looks : List Nat
  rd : List Nat
  wr : List Nat

def looksOf (o : Oper) : List Nat := o.op.operands.toList.filterMap fun | .tmp t => some t | _ => none

def addTo (l : List Nat) : List Nat → List Nat
  | [] => l
  | x :: r => bif l.any (Nat.beq x) then addTo l r else addTo (x :: l) r

def setDst (st : St) (d : Option Nat) (v : SV) (u : Store) (n : Nat) (wr : List Nat) : St :=
  { tmps := match d with
      | some d => (d, v) :: st.tmps
      | none => st.tmps
    store := u ++ st.store, nxt := n, dirty := addTo st.dirty wr, nt := st.nt }

def upFrom (a : Nat) : Nat → List Nat
  | 0 => []
  | k + 1 => a :: upFrom (a + 1) k

/-- A region's operations, in the text's order. -/
def evalOps (env : Env) (all : List Oper) : List Oper → Nat → St → List Rec → (St → List Rec → Prop) → Prop
  | [], _, st, tr, K => K st tr
  | o :: r, i, st, tr, K =>
    let run := fun (st : St) (g : List Nat) => evalOp env st o.op fun v u n rd wr =>
      evalOps env all r (i + 1) (setDst st o.dst v u n wr) (⟨i, o.dst, g ++ looksOf o, rd, wr ++ upFrom st.nxt (n - st.nxt)⟩ :: tr) K
    match o.guard with
    | none => run st []
    | some (j, want) => match (all[j]?).bind (·.dst) with
      | none => False
      | some t => 
        let skip := fun (st : St) => evalOps env all r (i + 1) (setDst st o.dst (.tup []) [] st.nxt []) (⟨i, o.dst, [t], [], []⟩ :: tr) K
        match get st.tmps t with
        | .bool b => Br b (bif want then run { st with tmps := setKey st.tmps t (.bool true) } [t] else skip { st with tmps := setKey st.tmps t (.bool true) })
            (bif want then skip { st with tmps := setKey st.tmps t (.bool false) } else run { st with tmps := setKey st.tmps t (.bool false) } [t])
        | .tup [] => skip st
        | _ => False

/-- Which operations stand before each: bits. -/
def befores : List Oper → List Nat → List Nat
  | [], acc => acc
  | o :: r, acc => befores r (acc ++ [o.after.toList.foldl (fun s e => bif Region.binds .any e then s ||| (1 <<< e.on) ||| acc.getD e.on 0 else s) 0])

def meets (a b : List Nat) : Bool := a.any fun x => b.any (Nat.beq x)

/-- May two operations not be exchanged? -/
def clash (a b : Rec) : Bool :=
  meets a.wr b.rd || meets a.wr b.wr || meets a.rd b.wr ||
  (match a.dst with
    | some d => b.looks.any (Nat.beq d) || (match b.dst with | some c => Nat.beq c d | none => false)
    | none => false) ||
  (match b.dst with
    | some d => a.looks.any (Nat.beq d)
    | none => false)

/-- Is the order of all that clash fixed? (The later ones first.) -/
def fixedOrder (bs : List Nat) : List Rec → Bool
  | [] => true
  | b :: r => (r.all fun a => !clash a b || (bs.getD b.i 0).testBit a.i) && fixedOrder bs r

/-- No edge leads to a later operation; a guard's operation stands before. -/
def edgesOk : Nat → List Oper → Bool
  | _, [] => true
  | i, o :: r => (o.after.toList.all fun e => !Region.binds .any e || Nat.blt e.on i) && edgesOk (i + 1) r

/-- Each operation's name lies in the frame. -/
def dstsOk (nt : Nat) (ops : List Oper) : Bool := ops.all fun o => match o.dst with
  | some d => Nat.blt d nt
  | none => true

/-- So many rounds at the most. -/
def iter (E : (Ex → St → Prop) → St → Prop) (K : Ex → St → Prop) : Nat → St → Prop
  | 0, _ => False
  | n + 1, st => E (fun e s => match e with
    | .normal => iter E K n s
    | e => K e s) st

/-- On, with what is still told. -/
def wk (f : St → Option St) (K : St → Prop) (s : St) : Prop := match f s with
  | some s' => K s'
  | none => False

/-- Has a function no text? -/
def noBody (env : Env) (k : FuncId) : Bool := match env.ft k with
  | some fn => fn.body.isNone
  | none => true

/-- The temporaries that a piece of text names. -/
def tmpsOf : Code → List Nat
  | .seq a b => tmpsOf a ++ tmpsOf b
  | .cond c a b => (match c with | .tmp t => [t] | _ => []) ++ (tmpsOf a ++ tmpsOf b)
  | .block _ a => tmpsOf a
  | .loop a => tmpsOf a
  | .region _ ops _ => ops.toList.flatMap looksOf
  | .rangeFunc g _ a b => (match g with | .tmp t => [t] | _ => []) ++ (tmpsOf a ++ tmpsOf b)
  | _ => []
/-- Some of the temporaries. -/
def someT (l : Tmps) (ts : List Nat) : Tmps :=
  match l with
  | [] => []
  | (t, v) :: r => bif ts.any (Nat.beq t) then (t, v) :: someT r ts else (t, .junk) :: someT r ts
/-- Parameters that lie in the frame, each once. -/
def goodPs (nt : Nat) : List Nat → Bool
  | [] => true
  | p :: r => Nat.blt p nt && (!(r.any (Nat.beq p)) && goodPs nt r)

def evalCode (env : Env) (W : Nat → St → Option St) (blk : Nat) : Code → (Ex → St → Prop) → St → Prop
  | .skip, K, st => K .normal st
  | .seq a b, K, st => evalCode env W blk a (fun e s => match e with
    | .normal => evalCode env W blk b K s
    | e => K e s) st
  | .cond c a b, K, st => match c with
    | .tmp t => match get st.tmps t with
      | .bool c => Br c (evalCode env W blk a K { st with tmps := setKey st.tmps t (.bool true) })
          (evalCode env W blk b K { st with tmps := setKey st.tmps t (.bool false) })
      | _ => False
    | .const (.bool true) => evalCode env W blk a K st
    | .const (.bool false) => evalCode env W blk b K st
    | _ => False
  | .block id a, K, st => evalCode env W id a (fun e s => match e with
    | .exit i => bif Nat.beq i id then K .normal s else K (.exit i) s
    | e => K e s) st
  | .loop a, K, st => match env.unroll blk with
    | 0 => ∃ n, wk (W blk) (iter (fun K s => evalCode env W blk a (fun e => wk (W blk) (K e)) s) K n) st
    | u + 1 => iter (evalCode env W blk a) K (u + 1) st
  | .exit id, K, st => K (.exit id) st
  | .ret, K, st => K .ret st
  | .region id ops draw, K, st =>
    let go := fun (s : St) => bif draw then
        (bif edgesOk 0 ops.toList then evalOps env ops.toList ops.toList 0 s [] fun s tr => If (fixedOrder (befores ops.toList []) tr) (K .normal s) else False)
      else evalOps env ops.toList ops.toList 0 s [] fun s _ => K .normal s
    bif dstsOk st.nt ops.toList then (bif env.cut id then wk (W (id + 2000000)) (fun s' => If (Nat.beq s'.nt st.nt) (go s')) st else go st) else False
  | .rangeFunc g ps assign body, K, st => bif env.rnd || !(goodPs st.nt ps.toList) then False else match eval st.tmps g with
    | .fn (.func k) first cap => bif noBody env k then False else
      let s1 : St := { st with store := (st.nxt, some (.loop (someT st.tmps (tmpsOf assign ++ tmpsOf body)) st.nt ps.toList assign body .ready)) :: st.store, nxt := st.nxt + 1 }
      callE env s1 k (first ++ [.yld st.nxt] ++ cap) fun v u n _ wr =>
        let s2 := setDst s1 none v u n wr
        match look s2.store st.nxt with
        | some (.loop _ _ _ _ _ pend) =>
          let s3 : St := { s2 with store := (st.nxt, none) :: s2.store }
          match pend with
          | .ready => K .normal s3
          | .left e => K e s3
          | .busy => False
        | _ => False
    | _ => False
  | _, _, _ => False

def resultE (env : Env) (st : St) : ResultVar → Option SV
  | .tmp t => some (get st.tmps t)
  | .cell a t => match env.tt t, get st.tmps a with
    | some ti, .ptr id off => match look st.store id with
      | some (.cells _ cs) => ofCells ti (cut cs off ti.size)
      | _ => none
    | _, _ => none

def resultsE (env : Env) (st : St) : List ResultVar → Option (List SV)
  | [] => some []
  | r :: l => match resultE env st r, resultsE env st l with
    | some v, some vs => some (v :: vs)
    | _, _ => none

def upto : Nat → List Nat
  | 0 => []
  | n + 1 => upto n ++ [n]

def tupled : List SV → SV
  | [v] => v
  | vs => .tup vs

/-- The end of a call: its result, and the blocks: those that were handed in, and what the result leads to. -/
def finishV (n0 : Nat) (v : SV) (K : SV → List (Option SB) → List Nat → Prop) (st : St) : Prop :=
  let F := reach st.store 200 (upto n0 ++ ids v) []
  let G := upto n0 ++ F.filter fun i => Nat.ble n0 i
  let f := fun i => idx G i 0
  K (ren f v) (G.map fun i => (look st.store i).map (renB f)) (st.dirty.filter fun i => Nat.blt i n0)

def finish (env : Env) (n0 : Nat) (rs : List ResultVar) (K : SV → List (Option SB) → List Nat → Prop) (st : St) : Prop :=
  match resultsE env st rs with
  | none => False
  | some vs => finishV n0 (tupled vs) K st

def params (xs : List SV) (i : Nat) : Tmps :=
  match xs with
  | [] => []
  | a :: l => (i, a) :: params l (i + 1)

def stores (σ : List (Option SB)) (i : Nat) : Store :=
  match σ with
  | [] => []
  | a :: l => (i, a) :: stores l (i + 1)

/-- Arguments, as temporaries. -/
def zipT : List Nat → List SV → Tmps
  | p :: ps, x :: xs => (p, x) :: zipT ps xs
  | _, _ => []

/-- A round: the assignments to the loop's left sides, and the body; the record is the first block. -/
def evalRound (env : Env) (W : Nat → Nat → St → Option St) (xs : List SV) (σ : List (Option SB)) (K : SV → List (Option SB) → List Nat → Prop) : Prop :=
  match σ with
  | some (.loop tm nt ps assign body .ready) :: r =>
    let n0 := r.length + 1
    bif Nat.beq ps.length xs.length && goodPs nt ps then
      evalCode env (W n0) 1000000 assign (fun e s => match e with
        | .normal => (match look s.store 0 with
          | some (.loop tm1 nt1 ps1 as1 bd1 .ready) =>
            evalCode env (W n0) 1000000 body (fun e s => match look s.store 0 with
              | some (.loop tm2 nt2 ps2 as2 bd2 .busy) => match e with
                | .normal => finishV n0 (.bool true) K { s with store := (0, some (.loop tm2 nt2 ps2 as2 bd2 .ready)) :: s.store, dirty := addTo s.dirty [0] }
                | e => finishV n0 (.bool false) K { s with store := (0, some (.loop tm2 nt2 ps2 as2 bd2 (.left e))) :: s.store, dirty := addTo s.dirty [0] }
              | _ => False) { s with store := (0, some (.loop tm1 nt1 ps1 as1 bd1 .busy)) :: s.store, dirty := addTo s.dirty [0] }
          | _ => False)
        | _ => False) ⟨zipT ps xs ++ tm, stores σ 0, n0, [], nt⟩
    else False
  | _ => False

/-- A function's body. -/
def evalFn (env : Env) (W : Nat → Nat → St → Option St) (fn : Func) (xs : List SV) (σ : List (Option SB)) (K : SV → List (Option SB) → List Nat → Prop) : Prop :=
  match fn.body with
  | none => False
  | some c => evalCode env (W σ.length) 1000000 c (fun e s => match e with
    | .exit _ => False
    | _ => finish env σ.length fn.results.toList K s) ⟨params xs 0, stores σ 0, σ.length, [], xs.length + (fn.ntmps - xs.length)⟩

/-- Calls: by what is known of them; else by their bodies, so deep. And rounds, likewise. -/
def calls (env : Env) (W : Nat → Nat → St → Option St) (known : FuncId → Bool) : Nat → FuncId → List SV → List (Option SB) → (SV → List (Option SB) → List Nat → Prop) → Prop
  | 0, k, xs, σ, K => env.callee k xs σ K
  | d + 1, k, xs, σ, K => bif known k then env.callee k xs σ K else match env.ft k with
    | none => False
    | some fn => evalFn { env with callee := calls env W known d, round := fun xs σ K => roundsN env W known d xs σ K } W fn xs σ K
where roundsN (env : Env) (W : Nat → Nat → St → Option St) (known : FuncId → Bool) : Nat → List SV → List (Option SB) → (SV → List (Option SB) → List Nat → Prop) → Prop
  | 0, _, _, _ => False
  | d + 1, xs, σ, K => evalRound { env with callee := calls env W known d, round := fun xs σ K => roundsN env W known d xs σ K, rnd := true } W xs σ K

end Go.Se

/- What the symbolic run asks of a program's types. -/
namespace Go.Se

/-- A zero value's cells, if they are of a known shape. -/
def zeroCells : List Value → Option (List SV)
  | [] => some []
  | v :: l => match v, zeroCells l with
    | .int k n, some r => bif decide (n = 0) then some (.int k 0 :: r) else none
    | .bool b, some r => some (.bool b :: r)
    | .string s, some r => bif Nat.beq s.size 0 then some (.str s :: r) else none
    | .pointer none, some r => some (.nilp :: r)
    | .slice none 0 0, some r => some (.nils :: r)
    | .nilFunc, some r => some (.nilfn :: r)
    | .nilIface, some r => some (.nilI :: r)
    | _, _ => none

def kindOf (d : TypeDesc) : Option TK :=
  match d with
  | .bool => some .bool
  | .int k => some (.int k)
  | .string => some .string
  | .pointer e => some (.ptr e)
  | .slice e => some (.slice e)
  | .array n e => some (.array n e)
  | .struct fs => bif fs.toList.all (fun f => f.name != "_") then some (.struct (fs.toList.map fun f => (f.offset, f.type))) else none
  | .func _ _ _ => some .func
  | .interface ms => some (.iface ms.isEmpty)
  | .map k e => some (.map k e)
  | .unsafePointer => some .other
  | _ => none

def kindIn (P : Program) (t : TypeId) : TK → Bool
  | .struct fs => !P.stoodInHeld t && fs.all (fun f => (P.info? f.2).isSome)
  | _ => true

def tiOf (P : Program) (t : TypeId) : Option TI :=
  match P.info? t, P.underlying t with
  | some i, some d => match i.zero, kindOf d with
    | some z, some k => match zeroCells z.cells.toList with
      | some cs => bif kindIn P t k then some ⟨k, i.size, i.bytes, cs⟩ else none
      | none => none
    | _, _ => none
  | _, _ => none

/-- A table of some types. -/
def ttOf (l : List (TypeId × TI)) (t : TypeId) : Option TI :=
  match l with
  | [] => none
  | (u, i) :: l => bif Nat.beq u t then some i else ttOf l t

def ftOf (l : List (FuncId × Func)) (t : FuncId) : Option Func :=
  match l with
  | [] => none
  | (u, i) :: l => bif Nat.beq u t then some i else ftOf l t

theorem ftOf_ok {P : Program} {l : List (FuncId × Func)} (h : ∀ p ∈ l, P.funcs[p.1]? = some p.2) {t : FuncId} {f : Func}
    (ht : ftOf l t = some f) : P.funcs[t]? = some f := by
  induction l with
  | nil => simp [ftOf] at ht
  | cons p l ih =>
    obtain ⟨u, j⟩ := p
    simp only [ftOf] at ht
    cases e : Nat.beq u t with
    | true =>
      rw [e] at ht
      simp only [cond_true, Option.some.injEq] at ht
      rw [← ht, ← Nat.eq_of_beq_eq_true e]; exact h (u, j) (by simp)
    | false => rw [e] at ht; exact ih (fun p hp => h p (by simp [hp])) ht

end Go.Se

/- What a shaped value says of a value in memory. -/
namespace Go.Se

abbrev Names := Nat → Option Nat

mutual
def rel (ρ : Names) (T : Nat → Prop) (w : World) : SV → Value → Prop
  | .junk, _ => True
  | .int k n, v => v = .int k n ∧ k.min ≤ n ∧ n ≤ k.max
  | .bool b, v => v = .bool b
  | .str s, v => v = .string s ∧ s.size < 9223372036854775808
  | .nilp, v => v = .pointer none
  | .ptr id off, v => ∃ b, ρ id = some b ∧ v = .pointer (some ⟨b, off, none⟩)
  | .eptr id i st o, v => ∃ b, ρ id = some b ∧ v = .pointer (some ⟨b, i * st + o, none⟩)
  | .rptr cs, v => ∃ b off, v = .pointer (some ⟨b, off, none⟩) ∧ b < w.heap.size ∧ ¬ T b ∧ relAt T w cs b off
  | .fn f x y, v => ∃ a c, v = .func f a c ∧ relL ρ T w x a.toList ∧ relL ρ T w y c.toList
  | .nilfn, v => v = .nilFunc
  | .agg cs, v => ∃ a, v = .agg a ∧ relL ρ T w cs a.toList
  | .tup cs, v => ∃ a, v = .tuple a ∧ relL ρ T w cs a.toList
  | .nils, v => v = .slice none 0 0
  | .emp, v => ∃ a c, v = .slice (some a) 0 c
  | .arr id off len cap, v => (∃ b, ρ id = some b ∧ v = .slice (some ⟨b, off, none⟩) len cap) ∧ len < 9223372036854775808
  | .own id off st len, v => ∃ b c, ρ id = some b ∧ v = .slice (some ⟨b, off * st, none⟩) len c ∧ len ≤ c ∧ c < 9223372036854775808 ∧
      ∃ vs e f, w.heap[b]? = some (.cells vs e f) ∧ off * st + c * st ≤ vs.size
  | .ro len st get, v => ∃ a c, v = .slice a len c ∧ (len ≤ c ∧ len < 9223372036854775808 ∧ (a = none → c = 0)) ∧
      (0 < len → ∃ b off, a = some ⟨b, off, none⟩ ∧ b < w.heap.size ∧ ¬ T b ∧ ∀ i, i < len → relAt T w (get i) b (off + i * st))
  | .nilI, v => v = .nilIface
  | .iface t x, v => ∃ y, v = .iface t y ∧ rel ρ T w x y
  | .yld id, v => ∃ b, ρ id = some b ∧ v = .func (.yield b) #[] #[]
def relL (ρ : Names) (T : Nat → Prop) (w : World) : List SV → List Value → Prop
  | [], m => m = []
  | a :: l, m => ∃ v r, m = v :: r ∧ rel ρ T w a v ∧ relL ρ T w l r
def relAt (T : Nat → Prop) (w : World) : List SV → Nat → Nat → Prop
  | [], _, _ => True
  | a :: l, b, o => (∃ v, w.cell? ⟨b, o, none⟩ = some v ∧ rel (fun _ => none) T w a v) ∧ relAt T w l b (o + 1)
end

/-- What a call, or an operation, may have done to memory: blocks outside T are as they were, and all blocks keep their make. -/
structure Grow (T : Nat → Prop) (w w' : World) : Prop where
  size : w.heap.size ≤ w'.heap.size
  same : ∀ b, b < w.heap.size → ¬ T b → w'.heap[b]? = w.heap[b]?
  shape : ∀ (b : Nat) (vs : Array Value) (e : TypeId) (f : Nat × Nat), w.heap[b]? = some (.cells vs e f) → ∃ (vs' : Array Value) (f' : Nat × Nat), w'.heap[b]? = some (.cells vs' e f') ∧ vs'.size = vs.size
  os : w'.os = w.os
  output : w'.output = w.output
  tape : w'.tape = w.tape

theorem Grow.refl (T : Nat → Prop) (w : World) : Grow T w w :=
  ⟨Nat.le_refl _, fun _ _ _ => rfl, fun _ vs _ f h => ⟨vs, f, h, rfl⟩, rfl, rfl, rfl⟩

theorem Grow.mono {T T' : Nat → Prop} {w w' : World} (h : Grow T w w') (hT : ∀ b, b < w.heap.size → T b → T' b) : Grow T' w w' :=
  ⟨h.size, fun b hb hn => h.same b hb fun ht => hn (hT b hb ht), h.shape, h.os, h.output, h.tape⟩

theorem Grow.trans {T T' : Nat → Prop} {w w' w'' : World} (h : Grow T w w') (h' : Grow T' w' w'') (hT : ∀ b, b < w.heap.size → T' b → T b) : Grow T w w'' := by
  refine ⟨Nat.le_trans h.size h'.size, fun b hb hn => ?_, fun b vs e f hb => ?_, h'.os.trans h.os, h'.output.trans h.output, h'.tape.trans h.tape⟩
  · rw [h'.same b (Nat.lt_of_lt_of_le hb h.size) (fun ht => hn (hT b hb ht)), h.same b hb hn]
  · obtain ⟨vs', f', h1, h2⟩ := h.shape b vs e f hb
    obtain ⟨vs'', f'', h3, h4⟩ := h'.shape b vs' e f' h1
    exact ⟨vs'', f'', h3, h4.trans h2⟩

/-- The one package-level variable that Go's library sets and that is read here: errors.errorType. -/
def handleOf (P : Program) : Option (Nat × Value) :=
  match P.globalNamed "errors.errorType", (P.cutTypes.find? (·.1 == "internal/reflectlite.rtype")).map (·.2), (List.range P.types.size).filter fun t => P.rowNamed t [101, 114, 114, 111, 114] with
  | some g, some r, [t] => some (g, .iface r (.agg #[typeHandle P t]))
  | _, _, _ => none

/-- It lies as it was laid. -/
def Inv (P : Program) (T : Nat → Prop) (w : World) : Prop := ∀ g v, handleOf P = some (g, v) → ¬ T g ∧ w.cell? ⟨g, 0, none⟩ = some v

theorem lt_of_cell {w : World} {a : Addr} {v : Value} (h : w.cell? a = some v) : a.block < w.heap.size := by
  unfold World.cell? at h
  cases hb : w.heap[a.block]? with
  | none => rw [hb] at h; simp at h
  | some o => exact (Array.getElem?_eq_some_iff.1 hb).1

theorem Inv.grow {P : Program} {T T' : Nat → Prop} {w w' : World} (h : Inv P T w) (hT : ∀ b, b < w.heap.size → T' b → T b) (hw : Grow T w w') : Inv P T' w' := fun g v hg => by
  obtain ⟨h1, h2⟩ := h g v hg
  have hlt := lt_of_cell h2
  refine ⟨fun ht => h1 (hT _ hlt ht), ?_⟩
  have := hw.same g hlt h1
  unfold World.cell? at h2 ⊢
  rw [this]; exact h2

theorem cell_same {w w' : World} {b o : Nat} (h : w'.heap[b]? = w.heap[b]?) : w'.cell? ⟨b, o, none⟩ = w.cell? ⟨b, o, none⟩ := by
  unfold World.cell?; rw [h]

section
variable {T T' : Nat → Prop} {w w' : World}

mutual
theorem rel_mono {ρ ρ' : Names} (hρ : ∀ id b, ρ id = some b → ρ' id = some b) (hT : ∀ b, b < w.heap.size → T' b → T b) (hw : Grow T w w') :
    ∀ (a : SV) (v : Value), rel ρ T w a v → rel ρ' T' w' a v
  | .junk, _, _ => trivial
  | .int _ _, _, h => h
  | .bool _, _, h => h
  | .str _, _, h => h
  | .nilp, _, h => h
  | .ptr id off, v, ⟨b, h1, h2⟩ => ⟨b, hρ _ _ h1, h2⟩
  | .eptr id i st o, v, ⟨b, h1, h2⟩ => ⟨b, hρ _ _ h1, h2⟩
  | .rptr cs, v, ⟨b, off, h1, hb, h2, h3⟩ => ⟨b, off, h1, Nat.lt_of_lt_of_le hb hw.size, fun ht => h2 (hT b hb ht), relAt_mono hT hw cs b off h2 h3⟩
  | .fn f x y, v, ⟨a, c, h1, h2, h3⟩ => ⟨a, c, h1, relL_mono hρ hT hw x _ h2, relL_mono hρ hT hw y _ h3⟩
  | .nilfn, _, h => h
  | .agg cs, v, ⟨a, h1, h2⟩ => ⟨a, h1, relL_mono hρ hT hw cs _ h2⟩
  | .tup cs, v, ⟨a, h1, h2⟩ => ⟨a, h1, relL_mono hρ hT hw cs _ h2⟩
  | .nils, _, h => h
  | .emp, _, h => h
  | .arr id off len cap, v, ⟨⟨b, h1, h2⟩, h3⟩ => ⟨⟨b, hρ _ _ h1, h2⟩, h3⟩
  | .own id off st len, v, ⟨b, c, h1, h2, h3, h4, vs, e, f, h5, h6⟩ => by
    obtain ⟨vs', f', h7, h8⟩ := hw.shape b vs e f h5
    exact ⟨b, c, hρ _ _ h1, h2, h3, h4, vs', e, f', h7, by omega⟩
  | .ro len st g, v, ⟨a, c, h1, h2, h3⟩ => ⟨a, c, h1, h2, fun hl => by
      obtain ⟨b, off, h4, hb, h5, h6⟩ := h3 hl
      exact ⟨b, off, h4, Nat.lt_of_lt_of_le hb hw.size, fun ht => h5 (hT b hb ht), fun i hi => relAt_mono hT hw (g i) b _ h5 (h6 i hi)⟩⟩
  | .nilI, _, h => h
  | .iface t x, v, ⟨y, h1, h2⟩ => ⟨y, h1, rel_mono hρ hT hw x y h2⟩
  | .yld id, v, ⟨b, h1, h2⟩ => ⟨b, hρ _ _ h1, h2⟩
theorem relL_mono {ρ ρ' : Names} (hρ : ∀ id b, ρ id = some b → ρ' id = some b) (hT : ∀ b, b < w.heap.size → T' b → T b) (hw : Grow T w w') :
    ∀ (l : List SV) (m : List Value), relL ρ T w l m → relL ρ' T' w' l m
  | [], _, h => h
  | a :: l, _m, ⟨v, r, h1, h2, h3⟩ => ⟨v, r, h1, rel_mono hρ hT hw a v h2, relL_mono hρ hT hw l r h3⟩
theorem relAt_mono (hT : ∀ b, b < w.heap.size → T' b → T b) (hw : Grow T w w') :
    ∀ (l : List SV) (b o : Nat), ¬ T b → relAt T w l b o → relAt T' w' l b o
  | [], _, _, _, _ => trivial
  | a :: l, b, o, hb, ⟨⟨v, h1, h2⟩, h3⟩ =>
    ⟨⟨v, by rw [cell_same (hw.same b (lt_of_cell h1) hb)]; exact h1, rel_mono (ρ := fun _ => none) (ρ' := fun _ => none) (fun _ _ h => h) hT hw a v h2⟩, relAt_mono hT hw l b (o + 1) hb h3⟩
end
end

/-- Another block than cells is turned. -/
structure Put (D : Nat) (w w' : World) : Prop where
  size : w'.heap.size = w.heap.size
  same : ∀ b, b ≠ D → w'.heap[b]? = w.heap[b]?
  old : ∀ vs e f, w.heap[D]? ≠ some (.cells vs e f)
  os : w'.os = w.os
  output : w'.output = w.output
  tape : w'.tape = w.tape
theorem Put.cells {D : Nat} {w w' : World} (h : Put D w w') {b : Nat} {vs : Array Value} {e : TypeId} {f : Nat × Nat} (hb : w.heap[b]? = some (.cells vs e f)) : w'.heap[b]? = some (.cells vs e f) := by
  by_cases hD : b = D
  · subst hD; exact absurd hb (h.old vs e f)
  · rw [h.same b hD]; exact hb
theorem Put.cell {D : Nat} {w w' : World} (h : Put D w w') {b o : Nat} {v : Value} (hc : w.cell? ⟨b, o, none⟩ = some v) : w'.cell? ⟨b, o, none⟩ = some v := by
  by_cases hD : b = D
  · exfalso
    subst hD
    unfold World.cell? at hc
    cases hh : w.heap[b]? with
    | none => rw [hh] at hc; simp at hc
    | some ob =>
      rw [hh] at hc
      cases ob <;> simp at hc
      exact h.old _ _ _ hh
  · rw [cell_same (h.same b hD)]; exact hc
section
variable {T : Nat → Prop} {D : Nat} {w w' : World}
mutual
theorem rel_put (h : Put D w w') {ρ : Names} : ∀ (a : SV) (v : Value), rel ρ T w a v → rel ρ T w' a v
  | .junk, _, _ => trivial
  | .int _ _, _, h => h
  | .bool _, _, h => h
  | .str _, _, h => h
  | .nilp, _, h => h
  | .ptr _ _, _, h => h
  | .eptr _ _ _ _, _, h => h
  | .rptr cs, v, ⟨b, off, h1, hb, h2, h3⟩ => ⟨b, off, h1, by rw [h.size]; exact hb, h2, relAt_put h cs b off h3⟩
  | .fn f x y, v, ⟨a, c, h1, h2, h3⟩ => ⟨a, c, h1, relL_put h x _ h2, relL_put h y _ h3⟩
  | .nilfn, _, h => h
  | .agg cs, v, ⟨a, h1, h2⟩ => ⟨a, h1, relL_put h cs _ h2⟩
  | .tup cs, v, ⟨a, h1, h2⟩ => ⟨a, h1, relL_put h cs _ h2⟩
  | .nils, _, h => h
  | .emp, _, h => h
  | .arr _ _ _ _, v, h => h
  | .own id off st len, v, ⟨b, c, h1, h2, h3, h4, vs, e, f, h5, h6⟩ => ⟨b, c, h1, h2, h3, h4, vs, e, f, h.cells h5, h6⟩
  | .ro len st g, v, ⟨a, c, h1, h2, h3⟩ => ⟨a, c, h1, h2, fun hl => by
      obtain ⟨b, off, h4, hb, h5, h6⟩ := h3 hl
      exact ⟨b, off, h4, by rw [h.size]; exact hb, h5, fun i hi => relAt_put h (g i) b _ (h6 i hi)⟩⟩
  | .nilI, _, h => h
  | .iface t x, v, ⟨y, h1, h2⟩ => ⟨y, h1, rel_put h x y h2⟩
  | .yld _, _, h => h
theorem relL_put (h : Put D w w') {ρ : Names} : ∀ (l : List SV) (m : List Value), relL ρ T w l m → relL ρ T w' l m
  | [], _, h => h
  | a :: l, _m, ⟨v, r, h1, h2, h3⟩ => ⟨v, r, h1, rel_put h a v h2, relL_put h l r h3⟩
theorem relAt_put (h : Put D w w') : ∀ (l : List SV) (b o : Nat), relAt T w l b o → relAt T w' l b o
  | [], _, _, _ => trivial
  | a :: l, b, o, ⟨⟨v, h1, h2⟩, h3⟩ => ⟨⟨v, h.cell h1, rel_put h a v h2⟩, relAt_put h l b (o + 1) h3⟩
end
end

/-- How a record stands, in memory. -/
def pendOf : Pd → LoopState → Option Code → Prop
  | .ready, st, p => st = .ready ∧ p = none
  | .busy, st, _ => st = .busy
  | .left .normal, _, _ => False
  | .left (.exit id), st, p => st = .done ∧ p = some (.exit id)
  | .left .ret, st, p => st = .done ∧ p = some .ret
/-- What is told of a block. -/
def relB (ρ : Names) (T : Nat → Prop) (w : World) : SB → Nat → Prop
  | .cells e cs, b => ∃ vs : Array Value, w.heap[b]? = some (.cells vs e (0, 0)) ∧ relL ρ T w cs vs.toList
  | .lst e cs, b => ∃ vs : Array Value, w.heap[b]? = some (.cells vs e (0, 0)) ∧ ∃ m r, vs.toList = m ++ r ∧ relL ρ T w cs m
  | .row e st len g, b => ∃ vs : Array Value, w.heap[b]? = some (.cells vs e (0, 0)) ∧ len * st ≤ vs.size ∧
      ∀ i, i < len → relL (fun _ => none) T w (g i) ((vs.toList.drop (i * st)).take st)
  | .loop tm nt ps as bd pend, b => ∃ r : Loop, w.heap[b]? = some (.loop r) ∧ pendOf pend r.state r.pending ∧ r.params.toList = ps ∧ r.assign = as ∧ r.body = bd ∧ r.tmps.size = nt ∧ ∀ t, rel ρ T w (get tm t) (r.tmps.getD t undef)
  | .iter s pos, b => ∃ q : Nat, w.heap[b]? = some (.stringIter s q) ∧ q = pos ∧ s.size < 9223372036854775808

theorem relB_lt {ρ : Names} {T : Nat → Prop} {w : World} {sb : SB} {b : Nat} (h : relB ρ T w sb b) : b < w.heap.size := by
  cases sb <;> (obtain ⟨vs, hb, _⟩ := h; exact (Array.getElem?_eq_some_iff.1 hb).1)

theorem relB_mono {ρ ρ' : Names} {T T' : Nat → Prop} {w w' : World} (hρ : ∀ id b, ρ id = some b → ρ' id = some b) (hT : ∀ b, b < w.heap.size → T' b → T b)
    (hw : Grow T w w') {sb : SB} {b : Nat} (hb : w'.heap[b]? = w.heap[b]?) (h : relB ρ T w sb b) : relB ρ' T' w' sb b := by
  cases sb with
  | cells e cs => obtain ⟨vs, h1, h2⟩ := h; exact ⟨vs, hb.trans h1, relL_mono hρ hT hw _ _ h2⟩
  | lst e cs => obtain ⟨vs, h1, m, r, h2, h3⟩ := h; exact ⟨vs, hb.trans h1, m, r, h2, relL_mono hρ hT hw _ _ h3⟩
  | row e st len g => obtain ⟨vs, h1, h2, h3⟩ := h; exact ⟨vs, hb.trans h1, h2, fun i hi => relL_mono (fun _ _ h => h) hT hw _ _ (h3 i hi)⟩
  | loop tm nt ps as bd pend => obtain ⟨r, h1, h2, h3, h4, h5, h6, h7⟩ := h; exact ⟨r, hb.trans h1, h2, h3, h4, h5, h6, fun t => rel_mono hρ hT hw _ _ (h7 t)⟩
  | iter s pos => obtain ⟨q, h1, h2⟩ := h; exact ⟨q, hb.trans h1, h2⟩

theorem relB_put {ρ : Names} {T : Nat → Prop} {D : Nat} {w w' : World} (h : Put D w w') {sb : SB} {b : Nat} (hbD : b ≠ D) (hb : relB ρ T w sb b) : relB ρ T w' sb b := by
  cases sb with
  | cells e cs => obtain ⟨vs, h1, h2⟩ := hb; exact ⟨vs, h.cells h1, relL_put h _ _ h2⟩
  | lst e cs => obtain ⟨vs, h1, m, r, h2, h3⟩ := hb; exact ⟨vs, h.cells h1, m, r, h2, relL_put h _ _ h3⟩
  | row e st len g => obtain ⟨vs, h1, h2, h3⟩ := hb; exact ⟨vs, h.cells h1, h2, fun i hi => relL_put h _ _ (h3 i hi)⟩
  | loop tm nt ps as bd pend => obtain ⟨r, h1, h2, h3, h4, h5, h6, h7⟩ := hb; exact ⟨r, (h.same b hbD).trans h1, h2, h3, h4, h5, h6, fun t => rel_put h _ _ (h7 t)⟩
  | iter s pos => obtain ⟨q, h1, h2⟩ := hb; exact ⟨q, (h.same b hbD).trans h1, h2⟩

mutual
/-- A value without names. -/
theorem rel_flat {T : Nat → Prop} {w : World} {ρ ρ2 : Names} : ∀ (a : SV) (v : Value), ids a = [] → rel ρ T w a v → rel ρ2 T w a v
  | .junk, _, _, _ => trivial
  | .int _ _, _, _, h => h
  | .bool _, _, _, h => h
  | .str _, _, _, h => h
  | .nilp, _, _, h => h
  | .ptr _ _, _, h, _ => by cases h
  | .eptr _ _ _ _, _, h, _ => by cases h
  | .rptr _, _, _, h => h
  | .fn g x y, v, h, ⟨a, c, h1, h2, h3⟩ => by
    simp only [ids, List.append_eq_nil_iff] at h
    exact ⟨a, c, h1, relL_flat x _ h.1 h2, relL_flat y _ h.2 h3⟩
  | .nilfn, _, _, h => h
  | .agg cs, v, h, ⟨a, h1, h2⟩ => ⟨a, h1, relL_flat cs _ h h2⟩
  | .tup cs, v, h, ⟨a, h1, h2⟩ => ⟨a, h1, relL_flat cs _ h h2⟩
  | .nils, _, _, h => h
  | .emp, _, _, h => h
  | .arr _ _ _ _, _, h, _ => by cases h
  | .own _ _ _ _, _, h, _ => by cases h
  | .ro _ _ _, _, _, h => h
  | .nilI, _, _, h => h
  | .iface t x, v, h, ⟨y, h1, h2⟩ => ⟨y, h1, rel_flat x y h h2⟩
  | .yld _, _, h, _ => by cases h
theorem relL_flat {T : Nat → Prop} {w : World} {ρ ρ2 : Names} : ∀ (l : List SV) (m : List Value), ids.idsL l = [] → relL ρ T w l m → relL ρ2 T w l m
  | [], _, _, h => h
  | a :: l, m, h, ⟨v, r, h1, h2, h3⟩ => by
    simp only [ids.idsL, List.append_eq_nil_iff] at h
    exact ⟨v, r, h1, rel_flat a v h.1 h2, relL_flat l r h.2 h3⟩
end

end Go.Se

/- What the model's small steps come to, told once. -/
namespace Go.Se
variable {P : Program} {w : World}

structure TIok (P : Program) (t : TypeId) (ti : TI) : Prop where
  info : ∃ i, P.info? t = some i ∧ i.size = ti.size ∧ i.bytes = ti.bytes ∧ ∃ z, i.zero = some z ∧ zeroCells z.cells.toList = some ti.zero
  desc : ∃ d, P.underlying t = some d ∧ kindOf d = some ti.kind
  held : ∀ fs, ti.kind = .struct fs → P.stoodInHeld t = false ∧ ∀ f ∈ fs, (P.info? f.2).isSome = true

theorem TIok.of {t : TypeId} {ti : TI} (h : tiOf P t = some ti) : TIok P t ti := by
  unfold tiOf at h
  split at h
  · rename_i i d hi hd
    split at h
    · rename_i z k hz hk
      split at h
      · rename_i cs hc
        cases hkin : kindIn P t k with
        | false => rw [hkin] at h; cases h
        | true =>
          rw [hkin] at h
          cases h
          refine ⟨⟨i, hi, rfl, rfl, z, hz, hc⟩, ⟨d, hd, hk⟩, fun fs hf => ?_⟩
          simp only at hf
          subst hf
          simp only [kindIn, Bool.and_eq_true, Bool.not_eq_true', List.all_eq_true] at hkin
          exact hkin
      · cases h
    · cases h
  · cases h

theorem TIok.sizeOf {t : TypeId} {ti : TI} (h : TIok P t ti) : (sizeOf t).run P w = .ok ti.size w := by
  obtain ⟨⟨i, hi, h1, _⟩, _, _⟩ := h
  simp [Go.sizeOf, Go.typeInfo, hi, h1]

theorem TIok.underlying {t : TypeId} {ti : TI} (h : TIok P t ti) : ∃ d, (underlying t).run P w = .ok d w ∧ P.underlying t = some d ∧ kindOf d = some ti.kind := by
  obtain ⟨_, ⟨d, hd, hk⟩, _⟩ := h
  exact ⟨d, by simp [Go.underlying, hd], hd, hk⟩

theorem TIok.isAgg {t : TypeId} {ti : TI} (h : TIok P t ti) : (Go.isAgg t).run P w = .ok (isAgg ti.kind) w := by
  obtain ⟨d, hd, _, hk⟩ := h.underlying (w := w)
  unfold Go.isAgg
  rw [Sem.run_bind, hd]
  cases d <;> simp only [kindOf, Option.some.injEq, reduceCtorEq] at hk
  case struct fs _ =>
    cases hb : fs.toList.all (fun f => f.name != "_") with
    | true => rw [hb] at hk; simp only [cond_true, Option.some.injEq] at hk; rw [← hk]; rfl
    | false => rw [hb] at hk; simp at hk
  all_goals (rw [← hk]; rfl)

theorem TIok.zero {t : TypeId} {ti : TI} (h : TIok P t ti) : ∃ z, (zeroValue t).run P w = .ok z w ∧ zeroCells z.cells.toList = some ti.zero := by
  obtain ⟨⟨i, hi, _, _, z, hz, hc⟩, _, _⟩ := h
  exact ⟨z, by simp [zeroValue, Go.typeInfo, hi, hz], hc⟩

theorem in_min_max_zero (k : IntKind) : k.min ≤ 0 ∧ 0 ≤ k.max := by cases k <;> decide

theorem zeroCells_rel (ρ : Names) (T : Nat → Prop) (w : World) : ∀ (l : List Value) (cs : List SV), zeroCells l = some cs → relL ρ T w cs l
  | [], cs, h => by simp [zeroCells] at h; subst h; rfl
  | v :: l, cs, h => by
    unfold zeroCells at h
    split at h
    · rename_i k n r hr
      by_cases hn : n = 0
      · subst hn; simp at h; subst h
        exact ⟨_, _, rfl, ⟨rfl, in_min_max_zero k⟩, zeroCells_rel ρ T w l _ hr⟩
      · simp [hn] at h
    · rename_i b r hr; cases h; exact ⟨_, _, rfl, rfl, zeroCells_rel ρ T w l _ hr⟩
    · rename_i x r hr
      by_cases hn : x.size = 0
      · rw [show Nat.beq x.size 0 = true from by rw [hn]; rfl] at h
        cases h; exact ⟨_, _, rfl, ⟨rfl, by omega⟩, zeroCells_rel ρ T w l _ hr⟩
      · rw [show Nat.beq x.size 0 = false from by rw [Bool.eq_false_iff]; intro e; exact hn (Nat.eq_of_beq_eq_true e)] at h
        cases h
    all_goals first
      | (rename_i r hr; cases h; exact ⟨_, _, rfl, rfl, zeroCells_rel ρ T w l _ hr⟩)
      | cases h

/-- Memory with other cells in a block. -/
def putBlock (w : World) (b : Nat) (vs : Array Value) (e : TypeId) : World := { w with heap := w.heap.setIfInBounds b (.cells vs e (0, 0)) }

theorem putBlock_size (w : World) (b : Nat) (vs : Array Value) (e : TypeId) : (putBlock w b vs e).heap.size = w.heap.size := by simp [putBlock]

theorem putBlock_at {b : Nat} {vs : Array Value} {e : TypeId} (h : b < w.heap.size) : (putBlock w b vs e).heap[b]? = some (.cells vs e (0, 0)) := by
  simp [putBlock, h]

theorem putBlock_other {b c : Nat} {vs : Array Value} {e : TypeId} (h : c ≠ b) : (putBlock w b vs e).heap[c]? = w.heap[c]? := by
  simp [putBlock, Array.getElem?_setIfInBounds_ne (Ne.symm h)]

theorem add_off (b o i : Nat) : (Addr.mk b o none).add i = ⟨b, o + i, none⟩ := by
  unfold Addr.add; split
  · subst_vars; rfl
  · rfl

theorem cell_of {b : Nat} {vs : Array Value} {e : TypeId} {f : Nat × Nat} (h : w.heap[b]? = some (.cells vs e f)) (o : Nat) :
    w.cell? ⟨b, o, none⟩ = vs[o]? := by
  unfold World.cell?; simp [h]

/-- A row of cells is read. -/
theorem run_loadCellsFrom {b o : Nat} {vs : Array Value} {e : TypeId} {f : Nat × Nat} (h : w.heap[b]? = some (.cells vs e f)) :
    ∀ (n i : Nat) (acc : Array Value), o + i + n ≤ vs.size →
    (loadCellsFrom ⟨b, o, none⟩ i n acc).run P w = .ok (acc ++ ((vs.toList.drop (o + i)).take n).toArray) w := by
  intro n
  induction n with
  | zero => intro i acc _; simp [loadCellsFrom]
  | succ n ih =>
    intro i acc hn
    have hlt : o + i < vs.size := by omega
    unfold loadCellsFrom
    rw [Sem.run_bind, add_off]
    simp only [run_load, cell_of h, Array.getElem?_eq_getElem hlt]
    simp only [Result.andThen_ok]
    rw [ih (i + 1) _ (by omega)]
    congr 1
    apply Array.ext'
    simp only [Array.toList_append, Array.toList_push]
    rw [show o + (i + 1) = o + i + 1 by omega, List.append_assoc]
    congr 1
    rw [List.drop_eq_getElem_cons (l := vs.toList) (i := o + i) (by simpa using hlt), List.take_succ_cons]
    simp

theorem run_loadCells {b o n : Nat} {vs : Array Value} {e : TypeId} {f : Nat × Nat} (h : w.heap[b]? = some (.cells vs e f)) (hn : o + n ≤ vs.size) :
    (loadCells ⟨b, o, none⟩ n).run P w = .ok ((vs.toList.drop o).take n).toArray w := by
  unfold loadCells
  rw [run_loadCellsFrom h n 0 #[] (by omega)]
  simp

/-- Values written over others from a place on. -/
def overAt (l : List Value) (o : Nat) (m : List Value) : List Value := l.take o ++ m ++ l.drop (o + m.length)

theorem putBlock_put (w : World) (b : Nat) (vs vs' : Array Value) (e e' : TypeId) : putBlock (putBlock w b vs e) b vs' e' = putBlock w b vs' e' := by
  unfold putBlock; simp

theorem setCell_put {b o : Nat} {vs : Array Value} {e : TypeId} (h : w.heap[b]? = some (.cells vs e (0, 0))) (v : Value) :
    w.setCell ⟨b, o, none⟩ v = putBlock w b (vs.setIfInBounds o v) e := by
  unfold World.setCell putBlock
  congr 1
  obtain ⟨hb, h'⟩ := Array.getElem?_eq_some_iff.1 h
  apply Array.ext (by simp)
  intro i h1 h2
  by_cases hi : b = i
  · subst hi
    rw [Array.getElem_modify_self, Array.getElem_setIfInBounds_self, h']
    simp
  · rw [Array.getElem_modify_of_ne hi, Array.getElem_setIfInBounds_ne _ hi]

theorem putBlock_self {b : Nat} {vs : Array Value} {e : TypeId} (h : w.heap[b]? = some (.cells vs e (0, 0))) : putBlock w b vs e = w := by
  unfold putBlock
  obtain ⟨hb, h'⟩ := Array.getElem?_eq_some_iff.1 h
  have : w.heap.setIfInBounds b (.cells vs e (0, 0)) = w.heap := by
    apply Array.ext (by simp)
    intro i h1 h2
    by_cases hi : b = i
    · subst hi; rw [Array.getElem_setIfInBounds_self, h']
    · rw [Array.getElem_setIfInBounds_ne _ hi]
  rw [this]

theorem frozen_of {b o : Nat} {vs : Array Value} {e : TypeId} (h : w.heap[b]? = some (.cells vs e (0, 0))) : w.frozen? ⟨b, o, none⟩ = false := by
  unfold World.frozen?; simp [h]

/-- A row of cells is written. -/
theorem run_storeCells {b o : Nat} {e : TypeId} : ∀ (l : List Value) (i : Nat) (vs : Array Value) (w : World), w.heap[b]? = some (.cells vs e (0, 0)) →
    o + i + l.length ≤ vs.size → (∀ v ∈ l, v.oneCell' = true) →
    (storeCells ⟨b, o, none⟩ l i).run P w = .ok () (putBlock w b (overAt vs.toList (o + i) l).toArray e) := by
  intro l
  induction l with
  | nil =>
    intro i vs w h _ _
    simp only [storeCells, overAt, List.length_nil, Nat.add_zero, List.append_nil, List.take_append_drop, Array.toArray_toList]
    rw [putBlock_self h]; rfl
  | cons v l ih =>
    intro i vs w h hn hv
    simp only [List.length_cons] at hn
    have hlt : o + i < vs.size := by omega
    unfold storeCells
    rw [Sem.run_bind, add_off, run_store P w _ v _ (hv v (by simp))]
    simp only [cell_of h, Array.getElem?_eq_getElem hlt, frozen_of h]
    simp only [Bool.false_eq_true, if_false, Result.andThen_ok]
    rw [setCell_put h]
    have hb : b < w.heap.size := (Array.getElem?_eq_some_iff.1 h).1
    rw [ih (i + 1) (vs.setIfInBounds (o + i) v) _ (putBlock_at hb) (by simp; omega) (fun x hx => hv x (by simp [hx])), putBlock_put]
    congr 2
    apply Array.ext'
    simp only [overAt, Array.toList_setIfInBounds, List.length_cons]
    have hl : o + i < vs.toList.length := by simpa using hlt
    rw [show o + (i + 1) = o + i + 1 by omega, show o + i + 1 + l.length = o + i + (l.length + 1) by omega]
    rw [List.take_set, List.drop_set_of_lt (by omega)]
    rw [List.take_succ_eq_append_getElem hl, List.set_append]
    have hm : min (o + i) vs.size = o + i := by omega
    simp [hm]

end Go.Se

