/- Part 21: loops that go on as long as they like. -/
import Derived.Test.YtheedafdaolooaaSeFn
namespace Go.Se

def codeAt : Code → List Nat → Code
  | c, [] => c
  | .seq a _, 0 :: l => codeAt a l
  | .seq _ b, _ :: l => codeAt b l
  | .block _ a, _ :: l => codeAt a l
  | .loop a, _ :: l => codeAt a l
  | .cond _ a _, 0 :: l => codeAt a l
  | .cond _ _ b, _ :: l => codeAt b l
  | c, _ => c

def bodyOf (fn : Func) : Code := match fn.body with
  | some c => c
  | none => .skip

/-- What comes behind a piece of code. -/
def ctxK (env : Env) (W : Nat → St → Option St) : Nat → Code → List Nat → (Ex → St → Prop) → (Ex → St → Prop)
  | _, _, [], K => K
  | blk, .seq a b, 0 :: l, K => ctxK env W blk a l (fun e s => match e with
    | .normal => evalCode env W blk b K s
    | e => K e s)
  | blk, .seq _ b, _ :: l, K => ctxK env W blk b l K
  | _, .block id a, _ :: l, K => ctxK env W id a l (fun e s => match e with
    | .exit i => bif Nat.beq i id then K .normal s else K (.exit i) s
    | e => K e s)
  | blk, .cond _ a _, 0 :: l, K => ctxK env W blk a l K
  | blk, .cond _ _ b, _ :: l, K => ctxK env W blk b l K
  | _, _, _, K => K

def finK (env : Env) (fn : Func) (n0 : Nat) (K : KC) : Ex → St → Prop := fun e s => match e with
  | .exit _ => False
  | _ => finish env n0 fn.results.toList K s

def cutN (ρ : Names) (m : Nat) : Names := fun i => if i < m then ρ i else none

mutual
theorem rel_small {ρ : Names} {T : Nat → Prop} {w : World} {m : Nat} : ∀ (a : SV) (v : Value), (∀ i ∈ ids a, i < m) → rel ρ T w a v → rel (cutN ρ m) T w a v
  | .junk, _, _, _ => trivial
  | .int _ _, _, _, h => h
  | .bool _, _, _, h => h
  | .str _, _, _, h => h
  | .nilp, _, _, h => h
  | .ptr id off, v, hs, ⟨b, h1, h2⟩ => ⟨b, by unfold cutN; rw [if_pos (hs id (by simp [ids]))]; exact h1, h2⟩
  | .rptr _, _, _, h => h
  | .fn g x y, v, hs, ⟨a, c, h1, h2, h3⟩ => ⟨a, c, h1, relL_small x _ (fun i hi => hs i (by simp [ids, hi])) h2, relL_small y _ (fun i hi => hs i (by simp [ids, hi])) h3⟩
  | .nilfn, _, _, h => h
  | .agg cs, v, hs, ⟨a, h1, h2⟩ => ⟨a, h1, relL_small cs _ (fun i hi => hs i (by simpa [ids] using hi)) h2⟩
  | .tup cs, v, hs, ⟨a, h1, h2⟩ => ⟨a, h1, relL_small cs _ (fun i hi => hs i (by simpa [ids] using hi)) h2⟩
  | .nils, _, _, h => h
  | .arr id off len cap, v, hs, ⟨⟨b, h1, h2⟩, h3⟩ => ⟨⟨b, by unfold cutN; rw [if_pos (hs id (by simp [ids]))]; exact h1, h2⟩, h3⟩
  | .own id st len, v, hs, ⟨b, c, h1, h2⟩ => ⟨b, c, by unfold cutN; rw [if_pos (hs id (by simp [ids]))]; exact h1, h2⟩
  | .ro _ _ _, _, _, h => h
  | .nilI, _, _, h => h
  | .iface t x, v, hs, ⟨y, h1, h2⟩ => ⟨y, h1, rel_small x y (fun i hi => hs i (by simpa [ids] using hi)) h2⟩
theorem relL_small {ρ : Names} {T : Nat → Prop} {w : World} {m : Nat} : ∀ (l : List SV) (r : List Value), (∀ i ∈ ids.idsL l, i < m) → relL ρ T w l r → relL (cutN ρ m) T w l r
  | [], _, _, h => h
  | a :: l, _, hs, ⟨v, r, h1, h2, h3⟩ => ⟨v, r, h1, rel_small a v (fun i hi => hs i (by simp [ids.idsL, hi])) h2, relL_small l r (fun i hi => hs i (by simp [ids.idsL, hi])) h3⟩
end

theorem relB_small {ρ : Names} {T : Nat → Prop} {w : World} {m : Nat} {sb : SB} {b : Nat} (hs : ∀ i ∈ idsB sb, i < m) (h : relB ρ T w sb b) : relB (cutN ρ m) T w sb b := by
  cases sb with
  | cells e cs => obtain ⟨vs, h1, h2⟩ := h; exact ⟨vs, h1, relL_small _ _ hs h2⟩
  | lst e cs => obtain ⟨vs, h1, x, r, h2, h3⟩ := h; exact ⟨vs, h1, x, r, h2, relL_small _ _ hs h3⟩
  | row e st len g => exact h

def below (m : Nat) (l : List Nat) : Bool := l.all fun i => Nat.blt i m
theorem below_lt {m : Nat} {l : List Nat} (h : below m l = true) : ∀ i ∈ l, i < m := fun i hi => by simpa using List.all_eq_true.1 h i hi

def keeps (l : Tmps) (m : Nat) : Tmps → Prop
  | [] => True
  | (t, v) :: r => (get l t = v ∧ below m (ids v) = true) ∧ keeps l m r
def keepsS (l : Store) (m : Nat) : Store → Prop
  | [] => True
  | (i, none) :: r => keepsS l m r
  | (i, some sb) :: r => (look l i = some sb ∧ Nat.blt i m = true ∧ below m (idsB sb) = true) ∧ keepsS l m r

theorem keeps_get {l : Tmps} {m : Nat} : ∀ {r : Tmps}, keeps l m r → ∀ t, get r t = .junk ∨ (get r t = get l t ∧ below m (ids (get r t)) = true)
  | [], _, t => .inl rfl
  | (u, v) :: r, ⟨⟨h1, h3⟩, h2⟩, t => by
    simp only [get]
    cases hb : Nat.beq u t with
    | true => rw [Nat.eq_of_beq_eq_true hb] at h1; exact .inr ⟨h1.symm, h3⟩
    | false => exact keeps_get h2 t
theorem keepsS_look {l : Store} {m : Nat} : ∀ {r : Store}, keepsS l m r → ∀ t sb, look r t = some sb → look l t = some sb ∧ t < m ∧ below m (idsB sb) = true
  | [], _, t, sb, h => by simp [look] at h
  | (u, none) :: r, h2, t, sb, h => by
    simp only [look] at h
    cases hb : Nat.beq u t with
    | true => rw [hb] at h; cases h
    | false => rw [hb] at h; exact keepsS_look (r := r) h2 t sb h
  | (u, some v) :: r, ⟨⟨h1, h3, h4⟩, h2⟩, t, sb, h => by
    simp only [look] at h
    cases hb : Nat.beq u t with
    | true =>
      rw [hb] at h
      simp only [cond_true, Option.some.injEq] at h
      subst h
      rw [Nat.eq_of_beq_eq_true hb] at h1 h3
      exact ⟨h1, by simpa using h3, h4⟩
    | false => rw [hb] at h; exact keepsS_look h2 t sb h

/-- What is still told of a state: these temporaries, these blocks. -/
structure Keep where
  ts : List Nat
  bs : List Nat
  d : List Nat
  m : Nat

def keptT (l : Tmps) : List Nat → Tmps
  | [] => []
  | t :: r => (t, get l t) :: keptT l r
def keptS (l : Store) : List Nat → Store
  | [] => []
  | t :: r => (t, look l t) :: keptS l r
def smallT (m : Nat) : Tmps → Bool
  | [] => true
  | (_, v) :: r => below m (ids v) && smallT m r
def smallS (m : Nat) : Store → Bool
  | [] => true
  | (_, none) :: r => smallS m r
  | (i, some sb) :: r => Nat.blt i m && below m (idsB sb) && smallS m r
def subs (d : List Nat) : List Nat → Bool
  | [] => true
  | p :: r => d.any (Nat.beq p) && subs d r

def restrict (n0 : Nat) (R : Keep) (s : St) : Option St :=
  bif Nat.ble n0 R.m && Nat.ble R.m s.nxt && subs R.d s.dirty && smallT R.m (keptT s.tmps R.ts) && smallS R.m (keptS s.store R.bs)
  then some ⟨keptT s.tmps R.ts, keptS s.store R.bs, R.m, R.d, s.nt⟩ else none

/-- A table of what is told at loops, by block. -/
def keepW (R : List (Nat × Keep)) (n0 blk : Nat) (s : St) : Option St :=
  match R with
  | [] => some s
  | (b, k) :: r => bif Nat.beq b blk then restrict n0 k s else keepW r n0 blk s

theorem keptT_ok {l : Tmps} {m : Nat} : ∀ {ts : List Nat}, smallT m (keptT l ts) = true → keeps l m (keptT l ts)
  | [], _ => trivial
  | t :: r, h => by
    simp only [keptT, smallT, Bool.and_eq_true] at h
    exact ⟨⟨rfl, h.1⟩, keptT_ok h.2⟩
theorem keptS_ok {l : Store} {m : Nat} : ∀ {ts : List Nat}, smallS m (keptS l ts) = true → keepsS l m (keptS l ts)
  | [], _ => trivial
  | t :: r, h => by
    simp only [keptS] at h ⊢
    cases hl : look l t with
    | none => rw [hl] at h; exact keptS_ok (ts := r) h
    | some sb =>
      rw [hl] at h
      simp only [smallS, Bool.and_eq_true] at h
      exact ⟨⟨hl, h.1.1, h.1.2⟩, keptS_ok h.2⟩
theorem subs_ok {d : List Nat} : ∀ {l : List Nat}, subs d l = true → ∀ p, p ∈ l → p ∈ d
  | [], _, p, hp => nomatch hp
  | q :: r, h, p, hp => by
    simp only [subs, Bool.and_eq_true] at h
    rcases List.mem_cons.1 hp with rfl | hp
    · exact any_beq.1 h.1
    · exact subs_ok h.2 p hp

def Less (n : Nat) (s s' : St) : Prop := ∀ (B : Base) (a : Act) (w : World), B.n = n → Now B s a w → Now B s' a w

/-- Less is told: of temporaries, of blocks; names of blocks that nothing leads to are free again. -/
theorem less_of {n : Nat} {s s' : St} (hn0 : n ≤ s'.nxt) (hn : s'.nxt ≤ s.nxt) (hd : ∀ p, p ∈ s.dirty → p ∈ s'.dirty) (ht : s'.nt = s.nt) (htm : keeps s.tmps s'.nxt s'.tmps)
    (hst : keepsS s.store s'.nxt s'.store) : Less n s s' := by
  rintro B a w rfl ⟨h1, ρ, T, h⟩
  refine ⟨hn0, cutN ρ s'.nxt, T, ?_⟩
  have hcut : ∀ {i b}, cutN ρ s'.nxt i = some b → i < s'.nxt ∧ ρ i = some b := by
    intro i b hi
    unfold cutN at hi
    split at hi
    · rename_i hlt; exact ⟨hlt, hi⟩
    · cases hi
  have hnone : ∀ q, look s.store q = none → look s'.store q = none := by
    intro q hq
    cases hl : look s'.store q with
    | none => rfl
    | some sb => rw [(keepsS_look hst q sb hl).1] at hq; cases hq
  have hsome : ∀ q, (look s'.store q).isSome → (look s.store q).isSome := by
    intro q hq
    obtain ⟨sb, hsb⟩ := Option.isSome_iff_exists.1 hq
    rw [(keepsS_look hst q sb hsb).1]; rfl
  exact {
    defers := h.defers
    size := by rw [ht]; exact h.size
    tmps := fun t => by
      rcases keeps_get htm t with e | ⟨e, hb⟩
      · rw [e]; trivial
      · exact rel_small _ _ (below_lt hb) (by rw [e]; exact h.tmps t)
    store := fun id sb hid => by
      obtain ⟨e, hlt, hb⟩ := keepsS_look hst id sb hid
      obtain ⟨_, b, b1, b2, b3⟩ := h.store id sb e
      exact ⟨hlt, b, by unfold cutN; rw [if_pos hlt]; exact b1, b2, relB_small (below_lt hb) b3⟩
    names := fun id b hid => ⟨(hcut hid).1, (h.names id b (hcut hid).2).2⟩
    inj := fun i j b hi hj h1 h2 => h.inj i j b (hsome i hi) (hsome j hj) (hcut h1).2 (hcut h2).2
    base := fun id hid => Nat.lt_of_lt_of_le hid hn0
    full := h.full
    grow := h.grow.mono fun b _ ⟨p, p1, p2⟩ => ⟨p, hd p p1, p2⟩
    old := fun p b hp => ⟨(h.old p b hp).1, by unfold cutN; rw [if_pos (Nat.lt_of_lt_of_le (h.old p b hp).1 hn0)]; exact (h.old p b hp).2⟩
    tback := h.tback
    tkeep := fun b hb hT => (h.tkeep b hb hT).imp (fun x => x) fun ⟨q, q1, q2, q3, q4⟩ => ⟨q, hd q q1, q2, hnone q q3, q4⟩
    fresh := fun id b h1 h2 h3 => (h.fresh id b (hsome id h1) h2 (hcut h3).2).imp (fun x => x) fun ⟨q, q1, q2, q3, q4⟩ => ⟨q, hd q q1, q2, hnone q q3, q4⟩ }
theorem restrict_less {n0 : Nat} {R : Keep} {s s' : St} (h : restrict n0 R s = some s') : Less n0 s s' := by
  unfold restrict at h
  cases hc : (Nat.ble n0 R.m && Nat.ble R.m s.nxt && subs R.d s.dirty && smallT R.m (keptT s.tmps R.ts) && smallS R.m (keptS s.store R.bs)) with
  | false => rw [hc] at h; cases h
  | true =>
    rw [hc] at h
    simp only [cond_true, Option.some.injEq] at h
    subst h
    simp only [Bool.and_eq_true] at hc
    obtain ⟨⟨⟨⟨h1, h2⟩, h3⟩, h4⟩, h5⟩ := hc
    exact less_of (Nat.le_of_ble_eq_true h1) (Nat.le_of_ble_eq_true h2) (subs_ok h3) rfl (keptT_ok h4) (keptS_ok h5)
theorem keepW_weaker (n0 : Nat) : ∀ R : List (Nat × Keep), Weaker n0 (keepW R n0)
  | [], blk, s, s', h => by cases h; exact fun _ _ _ _ h => h
  | (b, k) :: r, blk, s, s', h => by
    simp only [keepW] at h
    cases hb : Nat.beq b blk with
    | true => rw [hb] at h; exact restrict_less h
    | false => rw [hb] at h; exact keepW_weaker n0 r blk s s' h

/-- One round of a loop, and what comes behind it. -/
def roundE (env : Env) (W : Nat → St → Option St) (fn : Func) (path : List Nat) (blk : Nat) (K : Ex → St → Prop) (s : St) : Prop :=
  evalCode env W blk (codeAt (bodyOf fn) (path ++ [0])) (fun e => wk (W blk) (K e)) s
def afterE (env : Env) (W : Nat → St → Option St) (fn : Func) (path : List Nat) (n0 : Nat) (K : KC) : Ex → St → Prop :=
  ctxK env W 1000000 (bodyOf fn) path (finK env fn n0 K)
def loopE (env : Env) (W : Nat → St → Option St) (fn : Func) (path : List Nat) (blk n0 : Nat) (K : KC) : Nat → St → Prop :=
  iter (roundE env W fn path blk) (afterE env W fn path n0 K)

theorem loopE_succ {env : Env} {W : Nat → St → Option St} {fn : Func} {path : List Nat} {blk n0 : Nat} {K : KC} {n : Nat} {s : St} :
    loopE env W fn path blk n0 K (n + 1) s = roundE env W fn path blk (fun e s => match e with
      | .normal => loopE env W fn path blk n0 K n s
      | e => afterE env W fn path n0 K e s) s := rfl
end Go.Se
