import GoSem.Dispatch
import Derived.Orders
import Derived.LoopN
import GoSem.ClaimJoined
import Derived.Laws.Sem
import Derived.Laws.World
import Derived.Calls
import Derived.CallsIn
import Derived.RangeFuncCalls
import Derived.RangeFuncLeaves
import Derived.RangeFuncRecord
import Derived.LoopNIn
import Derived.OrdersIn
import Derived.Laws.StructEq
import Derived.LaidEqlPtr
import Derived.Deep.AppendSrc
import Derived.Lib.UnsafeStr
import Derived.Laws.RangeAny
import Derived.Lib.Builder
namespace Go.Se
abbrev aa:=@of_decide_eq_true
abbrev ab:=@List.forall_mem_cons
abbrev ae:=@of_decide_eq_false
abbrev af:=@Bool.and_eq_true
abbrev ai:=@Nat.eq_of_beq_eq_true
abbrev aj:=@decide_eq_false
abbrev ak:=@decide_eq_true_eq
abbrev am:=@Int.toNat_natCast
abbrev an:=@Option.some.injEq
abbrev ao:=@decide_eq_true
abbrev ap:=@cond_false
abbrev aq:=@List.mem_singleton
abbrev ar:=@cond_true
abbrev au:=@List.length_append
abbrev av:=@Nat.le_refl
abbrev aw:=@decide_eq_false_iff_not
abbrev az:=@List.length_cons
abbrev bc:=@List.getD_eq_getElem?_getD
abbrev be:=@List.getElem?_eq_getElem
abbrev bf:=@Bool.and_eq_false_iff
abbrev bi:=@Nat.zero_add
abbrev bj:=@Nat.mul_le_mul_right
abbrev bk:=@Array.getElem?_eq_some_iff
abbrev bm:=@List.mem_cons_of_mem
abbrev bn:=@Prod.mk.injEq
abbrev bo:=@List.append_assoc
abbrev bp:=@Nat.add_mul
abbrev bq:=@List.mem_cons_self
abbrev br:=@List.getElem?_take
abbrev bt:=@Array.getElem?_toList
abbrev bu:=@List.getElem?_drop
abbrev bv:=@Array.getD_eq_getD_getElem?
abbrev bw:=@List.length_nil
abbrev bz:=@Bool.false_eq_true
abbrev ca:=@List.getElem?_eq_some_iff
abbrev cb:=@List.mem_cons
abbrev cd:=@Nat.le_of_ble_eq_true
abbrev ce:=@Nat.zero_mul
abbrev cf:=@Bool.eq_false_iff
abbrev cg:=@List.size_toArray
abbrev ch:=@Bool.true_and
abbrev ci:=@beq_iff_eq
abbrev cj:=@Nat.one_mul
abbrev ck:=@beq_eq_false_iff_ne
abbrev cl:=@Array.getElem?_eq_getElem
abbrev cm:=@List.append_nil
abbrev cn:=@Nat.zero_le
abbrev co:=@Bool.or_true
abbrev cq:=@List.not_mem_nil
abbrev ct:=@List.mem_append
abbrev cv:=@List.getElem?_cons_zero
abbrev cz:=@Int.tdiv_eq_ediv_of_nonneg
abbrev da:=@List.take_append_of_le_length
abbrev db:=@Option.isSome_iff_exists
abbrev dc:=@List.length_drop
abbrev de:=@Nat.succ_pos
abbrev dg:=@Bool.not_eq_true'
abbrev dh:=@Bool.or_eq_false_iff
abbrev di:=@List.drop_append_of_le_length
abbrev dj:=@List.nil_append
abbrev dk:=@Nat.sub_zero
abbrev dm:=@Nat.lt_of_lt_of_le
abbrev dn:=@Nat.not_lt_zero
abbrev dp:=@Option.bind_eq_some_iff
abbrev dq:=@Option.map_some
abbrev dr:=@Bool.not_eq_false'
abbrev dt:=@bne_eq_false_iff_eq
abbrev du:=@List.length_take
abbrev dw:=@decide_eq_decide
abbrev dx:=@Int.ediv_nonneg
abbrev dy:=@List.getElem?_eq_none
abbrev dz:=@List.drop_eq_getElem_cons
abbrev ea:=@if_false
abbrev eb:=@Bool.not_true
abbrev ec:=@Int.ediv_lt_iff_lt_mul
abbrev ed:=@Int.le_of_lt
abbrev ef:=@List.mem_of_getElem?
abbrev ei:=@bne_iff_ne
abbrev ej:=@Go.run_underlying
abbrev em:=@Bool.and_false
abbrev eo:=@Int.tmod_eq_emod_of_nonneg
abbrev ep:=@ByteArray.ext
abbrev eu:=@List.length_reverse
abbrev ew:=@Array.size_append
abbrev fa:=@List.mem_map
abbrev fb:=@Nat.beq_refl
abbrev fc:=@Int.mul_nonneg
abbrev fd:=@Array.toList_append
abbrev fe:=@Array.length_toList
abbrev ff:=@List.getElem?_cons_succ
abbrev fg:=@List.eq_nil_of_length_eq_zero
abbrev fh:=@List.getElem?_append_left
abbrev fi:=@Int.pow_succ
abbrev fj:=@Bool.not_not
abbrev fm:=@List.getElem?_map
abbrev fo:=@Nat.add_sub_cancel_left
abbrev fq:=@Int.eq_ofNat_of_zero_le
abbrev fr:=@List.getElem?_append_right
abbrev fu:=@Nat.le_trans
abbrev fv:=@Bool.eq_iff_iff
abbrev fw:=@Array.ext'
abbrev fx:=@Bool.not_false
abbrev fy:=@or_false
abbrev fz:=@Int.mul_comm
abbrev ga:=@Int.mul_le_mul
abbrev gb:=@List.all_eq_true
abbrev gc:=@List.take_of_length_le
abbrev gf:=@List.map_append
abbrev gh:=@Nat.not_lt
abbrev gi:=@List.length_singleton
abbrev gj:=@Array.toList_map
abbrev gk:=@List.cons_append
abbrev gl:=@List.isEmpty_iff
abbrev gm:=@List.map_map
abbrev gn:=@List.mem_filterMap
abbrev gp:=@Int.emod_lt_of_pos
abbrev gq:=@List.drop_zero
abbrev gr:=@List.ext_getElem?
abbrev gu:=@List.length_map
abbrev gv:=@Int.emod_nonneg
abbrev gw:=@Bool.true_or
abbrev gx:=@Bool.false_or
abbrev gy:=@Nat.lt_irrefl
abbrev gz:=@List.take_length
abbrev ia:=@Nat.lt_or_eq_of_le
abbrev ib:=@Array.getElem?_setIfInBounds_ne
abbrev ic:=@Int.pow_pos
abbrev ie:=@Option.map_none
abbrev ig:=@Int.natCast_mul
inductive SV where
 |junk
 |int (k:IntKind) (n:Int)
 |bool (b:Bool)
 |str (s:ByteArray)
 |nilp
 |ptr (id off:Nat)
 |eptr (id i st o:Nat)
 |rptr (cs:List SV)
 |fn (f:Fn) (first cap:List SV)
 |nilfn
 |agg (cs:List SV)
 |tup (vs:List SV)
 |nils
 |emp
 |arr (id off len cap:Nat)
 |own (id off st len:Nat)
 |ro (len st:Nat) (get:Nat->List SV)
 |nilI
 |iface (t:TypeId) (v:SV)
 |yld (id:Nat)
inductive Ex where
 |normal
 |exit (id:Nat)
 |ret
inductive Pd where
 |ready
 |busy
 |left (e:Ex)
inductive SB where
 |cells (elem:TypeId) (cs:List SV)
 |lst (elem:TypeId) (cs:List SV)
 |row (elem:TypeId) (st len:Nat) (get:Nat->List SV)
 |loop (tm:List (Nat×SV)) (nt:Nat) (ps:List Nat) (assign body:Code) (pend:Pd)
 |iter (s:ByteArray) (pos:Nat)
inductive TK where
 |bool|int (k:IntKind)|string
 |ptr (e:TypeId)|slice (e:TypeId)|array (n:Nat) (e:TypeId)|struct (fs:List (Nat×TypeId))
 |func|iface (none:Bool)|map (k e:TypeId)|other
structure TI where
 kind:TK
 size:Nat
 bytes:Nat
 zero:List SV
abbrev mQ :=List (Nat×SV)
abbrev eD :=List (Nat×Option SB)
structure St where
 tmps:mQ
 store:eD
 nxt:Nat
 dirty:List Nat
 nt:Nat
def get(l:mQ)(t:Nat):SV:=
 match l with
 | []=> .junk
 |(u,v)::l=>bif Nat.beq u t then v else get l t
def rC(l:mQ)(t:Nat)(v:SV):mQ:=
 match l with
 | []=>[]
 |(u,x)::l=>bif Nat.beq u t then (u,v)::l else (u,x)::rC l t v
def aO(l:eD)(t:Nat):Option SB:=
 match l with
 | []=>none
 |(u,v)::l=>bif Nat.beq u t then v else aO l t
def sel(b:Bool)(x y:SV):SV:=
 match x,y with
 | .int j m,.int k n=>match decide (j=k) with
  |true=> .int j (bif b then m else n)
  |false=>match b with
   |true=> .int j m
   |false=> .int k n
 | .bool m,.bool n=> .bool (bif b then m else n)
 |x,y=>match b with
  |true=>x
  |false=>y
structure Env where
 tt:TypeId->Option TI
 ft:FuncId->Option Func
 callee:FuncId->List SV->List (Option SB)->(SV->List (Option SB)->List Nat->Prop)->Prop
 round:List SV->List (Option SB)->(SV->List (Option SB)->List Nat->Prop)->Prop:=fun _ _ _=>False
 rnd:Bool:=false
 view:FuncId->Bool
 unroll:Nat->Nat
 cut:Nat->Bool
def Br(c:Bool)(A B:Prop):Prop:=match c with
 |true=>A
 |false=>B
def If(c:Bool)(A:Prop):Prop:=match c with
 |true=>A
 |false=>False
theorem Br.mk{c:Bool}{A B:Prop}(t:c=true->A)(f:c=false->B):Br c A B:=by
 cases c
 ·exact f rfl
 ·exact t rfl
theorem If.mk{c:Bool}{A:Prop}(h:c=true)(a:A):If c A:=by subst h;exact a
def aDO :Value->SV
 | .int k n=>bif decide (k.min<=n)&&decide (n<=k.max) then .int k n else .junk
 | .bool b=> .bool b
 | .string s=>bif Nat.blt s.size 9223372036854775808 then .str s else .junk
 | .pointer none=> .nilp
 | .slice none 0 0=> .nils
 | .nilFunc=> .nilfn
 | .nilIface=> .nilI
 |_=> .junk
def eval(l:mQ):Operand->SV
 | .tmp t=>get l t
 | .const v=>aDO v
 | .func f=> .fn (.func f) [] []
 | .global _=> .junk
def isAgg :TK->Bool
 | .struct _=>true
 | .array _ _=>true
 |_=>false
def bE :SV->Bool
 | .junk=>false
 | .agg _=>false
 | .tup _=>false
 |_=>true
def AJ :SV->Bool
 | .junk=>false
 |_=>true
def cellsOf :SV->List SV
 | .agg cs=>cs
 |v=>[v]
def fN(ti:TI)(cs:List SV):Option SV:=
 bif isAgg ti.kind then (bif Nat.beq cs.length ti.size then some (.agg cs) else none)
 else match cs with
  | [c]=>some c
  |_=>none
def oK(cs:List SV)(off:Nat)(vs:List SV):Option (List SV):=
 match off,cs with
 |0,cs=>over cs vs
 |off+1,c::cs=>match oK cs off vs with
  |some r=>some (c::r)
  |none=>none
 |_+1,[]=>none
termination_by structural off
where
 over:List SV->List SV->Option (List SV)
  |cs,[]=>some cs
  |_::cs,v::vs=>match over cs vs with
   |some r=>some (v::r)
   |none=>none
  | [],_::_=>none
 termination_by structural _ x=>x
def nth(cs:List SV)(i:Nat):SV:=
 match cs,i with
 | [],_=> .junk
 |c::_,0=>c
 |_::cs,i+1=>nth cs i
def cut(cs:List SV)(off n:Nat):List SV:=(cs.drop off).take n
def AO(op:BinOp)(k:IntKind)(a b:Int)(K:SV->Prop):Prop:=
 match op with
 | .add=>K (.int k (k.wrap (a+b)))
 | .sub=>K (.int k (k.wrap (a - b)))
 | .mul=>K (.int k (k.wrap (a*b)))
 | .quo=>If (b !=0) (K (.int k (k.wrap (a.tdiv b))))
 | .rem=>If (b !=0) (K (.int k (a.tmod b)))
 | .and=>K (.int k (k.wrap (BitVec.ofInt k.bits a&&&BitVec.ofInt k.bits b).toNat))
 | .or=>K (.int k (k.wrap (BitVec.ofInt k.bits a|||BitVec.ofInt k.bits b).toNat))
 | .xor=>K (.int k (k.wrap (BitVec.ofInt k.bits a^^^BitVec.ofInt k.bits b).toNat))
 | .andNot=>K (.int k (k.wrap (BitVec.ofInt k.bits a&&& ~~~BitVec.ofInt k.bits b).toNat))
 | .eql=>K (.bool (a==b))
 | .neq=>K (.bool (a !=b))
 | .lss=>K (.bool (a<b))
 | .leq=>K (.bool (a<=b))
 | .gtr=>K (.bool (a>b))
 | .geq=>K (.bool (a>=b))
 | .shl=>If (decide (0<=b)) (K (.int k (k.wrap (a*2^min b.toNat k.bits))))
 | .shr=>If (decide (0<=b)) (K (.int k (a.fdiv (2^min b.toNat k.bits))))
def eqFields(tt:TypeId->Option TI)(E:TypeId->List SV->List SV->Option Bool):List (Nat×TypeId)->List SV->List SV->Option Bool
 | [],_,_=>some true
 |(off,t)::fs,xs,ys=>
  match tt t with
  |none=>none
  |some ti=>
   match E t (cut xs off ti.size) (cut ys off ti.size) with
   |none=>none
   |some b=>match fs with
    | []=>some b
    |_=>match eqFields tt E fs xs ys with
     |none=>none
     |some c=>some (b&&c)
def wN(E:List SV->List SV->Option Bool)(size:Nat):Nat->List SV->List SV->Option Bool
 |0,_,_=>some true
 |n+1,xs,ys=>
  match E (xs.take size) (ys.take size) with
  |none=>none
  |some b=>match n with
   |0=>some b
   |_=>match wN E size n (xs.drop size) (ys.drop size) with
    |none=>none
    |some c=>some (b&&c)
def KW(tt:TypeId->Option TI):Nat->TypeId->List SV->List SV->Option Bool
 |0,_,_,_=>none
 |d+1,t,xs,ys=>
  match tt t with
  |none=>none
  |some ti=>match ti.kind with
   | .bool=>match xs,ys with
    | [.bool a],[.bool b]=>some (a==b)
    |_,_=>none
   | .int _=>match xs,ys with
    | [.int j a],[.int k b]=>bif decide (j=k) then some (a==b) else none
    |_,_=>none
   | .string=>match xs,ys with
    | [.str a],[.str b]=>some (a==b)
    |_,_=>none
   | .struct fs=>eqFields tt (KW tt d) fs xs ys
   | .array n e=>match tt e with
    |some te=>match n with
     |0=>none
     |n+1=>wN (KW tt d e) te.size (n+1) xs ys
    |none=>none
   |_=>none
def eqE(op:BinOp)(b:Bool)(K:SV->Prop):Prop:=
 match op with
 | .eql=>K (.bool b)
 | .neq=>K (.bool (!b))
 |_=>False
def dI(tt:TypeId->Option TI)(t:TypeId)(p:TK->Bool):Bool:=
 match tt t with
 |some ti=>p ti.kind
 |none=>false
def u1 :TK->Bool
 | .ptr _=>true
 |_=>false
def aH6(tt:TypeId->Option TI):TK->Bool
 | .ptr e=>(tt e).isSome
 |_=>false
def VU :TK->Bool
 | .bool=>true
 |_=>false
def kN :TK->Bool
 | .slice _=>true
 |_=>false
def qJ :TK->Bool
 | .iface _=>true
 |_=>false
def O6 :SV->Option Bool
 | .nils=>some true
 | .emp=>some false
 | .arr _ _ _ _=>some false
 | .own _ _ _ _=>some false
 |_=>none
def KY(tt:TypeId->Option TI)(op:BinOp)(t:TypeId)(cst:Bool)(x y:SV)(K:SV->Prop):Prop:=
 match x,y with
 | .int j a,.int k b=>
  match op with
  | .shl=>AO .shl j a b K
  | .shr=>AO .shr j a b K
  |op=>match decide (j=k) with
   |true=>AO op j a b K
   |false=>False
 | .bool a,.bool b=>bif dI tt t VU then eqE op (a==b) K else False
 | .str a,.str b=>match op with
  | .add=>If (decide (a.size+b.size<9223372036854775808)) (K (.str (a++b)))
  |op=>eqE op (a==b) K
 | .nilp,.nilp=>bif dI tt t u1 then eqE op true K else False
 | .ptr _ _,.nilp=>bif dI tt t u1 then eqE op false K else False
 | .eptr _ _ _ _,.nilp=>bif dI tt t u1 then eqE op false K else False
 | .rptr _,.nilp=>bif dI tt t u1 then eqE op false K else False
 | .ptr i o,.ptr j q=>bif dI tt t (aH6 tt)&&(Nat.beq i j&&Nat.beq o q) then eqE op true K else False
 | .nilI,.nilI=>bif dI tt t qJ&&cst then eqE op true K else False
 | .iface _ _,.nilI=>bif dI tt t qJ then eqE op false K else False
 | .agg xs,.agg ys=>bif dI tt t isAgg then (match KW tt 12 t xs ys with
  |some b=>eqE op b K
  |none=>False) else False
 | .ro n _ _,.nils=>bif dI tt t kN then If (decide (0<n)) (eqE op false K) else False
 |x,.nils=>match O6 x with
  |some b=>bif dI tt t kN then eqE op b K else False
  |none=>False
 |_,_=>False
def aDU(op:UnOp)(x:SV)(K:SV->Prop):Prop:=
 match op,x with
 | .neg,.int k n=>K (.int k (k.wrap (0 - n)))
 | .xor,.int k n=>K (.int k (k.wrap (BitVec.ofInt k.bits (if k.signed then -1 else k.max)^^^BitVec.ofInt k.bits n).toNat))
 | .not,.bool b=>K (.bool !b)
 |_,_=>False
def DG(tt:TypeId->Option TI)(src dst:TypeId)(x:SV)(K:SV->Prop):Prop:=
 match tt src,tt dst with
 |some _,some ti=>match ti.kind,x with
  | .int k,.int _ n=>K (.int k (k.wrap n))
  |_,_=>False
 |_,_=>False
def yS(place:Nat->Option (Nat×Nat)):List (Nat×SV)->List SV->Option (List SV)
 | [],cs=>some cs
 |(i,v)::r,cs=>match place i with
  |none=>none
  |some (off,size)=>
   bif Nat.beq (cellsOf v).length size then
    match oK cs off (cellsOf v) with
    |some cs=>yS place r cs
    |none=>none
   else none
def fieldPlace(tt:TypeId->Option TI)(fs:List (Nat×TypeId))(i:Nat):Option (Nat×Nat):=
 match fs[i]? with
 |some (off,t)=>match tt t with
  |some ti=>some (off,ti.size)
  |none=>none
 |none=>none
def oM(zero:List SV):Nat->List SV
 |0=>[]
 |n+1=>zero++oM zero n
def ids :SV->List Nat
 | .ptr id _=>[id]
 | .eptr id _ _ _=>[id]
 | .arr id _ _ _=>[id]
 | .own id _ _ _=>[id]
 | .fn _ a b=>idsL a++idsL b
 | .agg cs=>idsL cs
 | .tup cs=>idsL cs
 | .iface _ v=>ids v
 | .yld id=>[id]
 |_=>[]
where idsL:List SV->List Nat
 | []=>[]
 |v::l=>ids v++idsL l
def aHT :List (Nat×SV)->List Nat
 | []=>[]
 |(_,v)::r=>ids v++aHT r
def NL :SB->List Nat
 | .cells _ cs=>ids.idsL cs
 | .lst _ cs=>ids.idsL cs
 | .row _ _ _ _=>[]
 | .loop tm _ _ _ _ _=>aHT tm
 | .iter _ _=>[]
def iZ(s:eD):Nat->List Nat->List Nat->List Nat
 |0,_,acc=>acc
 |_+1,[],acc=>acc
 |n+1,i::l,acc=>
  bif acc.any (Nat.beq i) then iZ s n l acc
  else match aO s i with
   |some sb=>iZ s n (NL sb++l) (acc++[i])
   |none=>iZ s n l acc
def idx(l:List Nat)(i:Nat)(k:Nat):Option Nat:=
 match l with
 | []=>none
 |j::l=>bif Nat.beq j i then some k else idx l i (k+1)
def ren(f:Nat->Option Nat):SV->SV
 | .ptr id off=>match f id with
  |some j=> .ptr j off
  |none=> .junk
 | .eptr id i st o=>match f id with
  |some j=> .eptr j i st o
  |none=> .junk
 | .arr id a b c=>match f id with
  |some j=> .arr j a b c
  |none=> .junk
 | .own id o a b=>match f id with
  |some j=> .own j o a b
  |none=> .junk
 | .fn g a b=> .fn g (renL a) (renL b)
 | .agg cs=> .agg (renL cs)
 | .tup cs=> .tup (renL cs)
 | .iface t v=> .iface t (ren f v)
 | .yld id=>match f id with
  |some j=> .yld j
  |none=> .junk
 |v=>v
where renL:List SV->List SV
 | []=>[]
 |v::l=>ren f v::renL l
def OL(f:Nat->Option Nat):List (Nat×SV)->List (Nat×SV)
 | []=>[]
 |(t,v)::r=>(t,ren f v)::OL f r
def mB(f:Nat->Option Nat):SB->SB
 | .cells e cs=> .cells e (ren.renL f cs)
 | .lst e cs=> .lst e (ren.renL f cs)
 | .row e st n g=> .row e st n g
 | .loop tm nt ps a b p=> .loop (OL f tm) nt ps a b p
 | .iter s p=> .iter s p
def iV(F:List Nat)(nxt:Nat)(p:Nat):Option Nat:=
 match F[p]? with
 |some i=>some i
 |none=>some (nxt+(p - F.length))
def eP(f:Nat->Option Nat)(F:List Nat)(nxt:Nat)(dirty:List Nat):Nat->List (Option SB)->eD
 |_,[]=>[]
 |p,b::l=>
  let r:=eP f F nxt dirty (p+1) l
  match F[p]? with
  |some i=>bif dirty.any (Nat.beq p) then (i,b.map (mB f))::r else r
  |none=>(nxt+(p - F.length),b.map (mB f))::r
abbrev KV :=SV->eD->Nat->List Nat->List Nat->Prop
def aIf(st:St)(F:List Nat)(K:KV):SV->List (Option SB)->List Nat->Prop:=fun v σ d=>
 let g:=iV F st.nxt
 K (ren g v) (eP g F st.nxt d 0 σ) (st.nxt+(σ.length - F.length)) F (d.filterMap fun p=>F[p]?)
def HT(env:Env)(st:St)(k:FuncId)(xs:List SV)(K:KV):Prop:=
 let F:=iZ st.store 200 (ids.idsL xs) []
 let f:=fun i=>idx F i 0
 env.callee k (ren.renL f xs) (F.map fun i=>(aO st.store i).map (mB f)) (aIf st F K)
def VF(env:Env)(st:St)(id:Nat)(xs:List SV)(K:KV):Prop:=
 match aO st.store id with
 |some (.loop _ _ _ _ _ _)=>
  let F:=iZ st.store 200 (id::ids.idsL xs) []
  let f:=fun i=>idx F i 0
  env.round (ren.renL f xs) (F.map fun i=>(aO st.store i).map (mB f)) (aIf st F K)
 |_=>False
def aAK(k:IntKind)(up:Bool):Int->List SV->Option Int
 |a,[]=>some a
 |a,.int j b::l=>bif decide (j=k) then aAK k up (bif up then (if b>a then b else a) else (if b<a then b else a)) l else none
 |_,_=>none
def w5 :TK->Bool
 | .string=>true
 |_=>false
def aDi(st:St)(size:Nat)(x:SV):Option (Nat×List SV×List Nat):=
 match x with
 | .nils=>some (0,[],[])
 | .emp=>some (0,[],[])
 | .arr id off len _=>match aO st.store id with
  |some (.cells _ cs)=>bif Nat.beq (cut cs off (len*size)).length (len*size)&&(cut cs off (len*size)).all bE then some (len,cut cs off (len*size),[id]) else none
  |_=>none
 | .own id off st' len=>match aO st.store id with
  |some (.lst _ cs)=>bif Nat.beq st' size&&(Nat.beq (cut cs (off*size) (len*size)).length (len*size)&&(cut cs (off*size) (len*size)).all bE) then some (len,cut cs (off*size) (len*size),[id]) else none
  |_=>none
 |_=>none
def bK(i:Nat)(c:List SV)(g:Nat->List SV):Nat->List SV:=fun j=>bif decide (j=i) then c else g j
def OM(st:St)(size:Nat)(x:SV):Option (Nat×(Nat->List SV)×List Nat×Bool):=
 match x with
 | .ro n sz g=>bif Nat.beq sz size then some (n,g,[],true) else none
 | .own id 0 sz n=>match aO st.store id with
  |some (.row _ sz' len g)=>bif Nat.beq sz size&&Nat.beq sz' size then some (n,g,[id],decide (n<=len)) else none
  |_=>none
 |_=>none
def qM(len:Nat)(g h:Nat->List SV):Nat->List SV:=fun i=>bif Nat.blt i len then g i else h (i - len)
def RN(st:St)(e sz id:Nat):Option ((Nat->List SV)×Nat):=
 match aO st.store id with
 |some (.row e' sz' len' g)=>bif Nat.beq e' e&&Nat.beq sz' sz then some (g,len') else none
 |some (.lst e' cs)=>bif Nat.beq e' e&&((ids.idsL cs).isEmpty&&Nat.beq (cs.length%sz) 0) then some (fun i=>cut cs (i*sz) sz,cs.length/sz) else none
 |_=>none
def FE(s:ByteArray):Nat->List SV:=fun i=>[.int .u8 (s.data.getD i 0).toNat]
def wQ(st:St)(e:TypeId)(te:TI)(s:SV)(R:Option (Nat×(Nat->List SV)×List Nat×Bool))(K:KV):Prop:=
 match R with
 |none=>False
 |some (n,h,rd,ok)=>match s with
  | .nils=>(∀i,i<n->(h i).length=te.size/\(h i).all bE=true)/\If (ok&&(decide (n*te.bytes<=1099511627776)&&decide (n<9223372036854775808)))
    (Br (decide (0<n)) (K (.own st.nxt 0 te.size n) [(st.nxt,some (.row e te.size n h))] (st.nxt+1) rd []) (K .nils [] st.nxt rd []))
  | .arr id off 0 0=>(∀i,i<n->(h i).length=te.size/\(h i).all bE=true)/\If (ok&&(decide (n*te.bytes<=1099511627776)&&decide (n<9223372036854775808)))
    (Br (decide (0<n)) (K (.own st.nxt 0 te.size n) [(st.nxt,some (.row e te.size n h))] (st.nxt+1) rd []) (K (.arr id off 0 0) [] st.nxt rd []))
  | .arr id 0 (len+1) cap=>match aO st.store id with
   |some (.cells _ cs)=>bif Nat.beq cap (len+1)&&((ids.idsL cs).isEmpty&&Nat.beq cs.length ((len+1)*te.size)) then
     (∀i,i<n->(h i).length=te.size/\(h i).all bE=true)/\
     If ((ok&&decide (0<n))&&(decide ((len+1+n)*te.bytes<=1099511627776)&&decide (len+1+n<9223372036854775808)))
     (K (.own st.nxt 0 te.size (len+1+n)) [(st.nxt,some (.row e te.size (len+1+n) (qM (len+1) (fun i=>cut cs (i*te.size) te.size) h)))] (st.nxt+1) (id::rd) []) else False
   |_=>False
  | .own id 0 sz len=>bif Nat.beq sz te.size&& !(rd.any (Nat.beq id)) then (match RN st e sz id with
   |some (g,len')=>(∀i,i<n->(h i).length=te.size/\(h i).all bE=true)/\
     If ((ok&&decide (len'=len))&&(decide ((len+n)*te.bytes<=1099511627776)&&decide (len+n<9223372036854775808)))
     (K (.own st.nxt 0 sz (len+n)) [(id,none),(st.nxt,some (.row e sz (len+n) (qM len g h)))] (st.nxt+1) (id::rd) [id])
   |none=>False) else False
  |_=>False
def KH(env:Env)(t u:TypeId)(s x:SV)(st:St)(K:KV):Prop:=
 match env.tt t,env.tt u with
 |some ti,some tu=>match ti.kind,tu.kind with
  | .slice e,.slice _=>match env.tt e with
   |some te=>bif Nat.beq te.zero.length te.size&&Nat.blt 0 te.size then (match aDi st te.size x with
    |some (n,c,rd)=>match s with
     | .nils=>match n with
      |0=>K .nils [] st.nxt rd []
      |n+1=>If (decide ((n+1)*te.bytes<=1099511627776)&&decide (n+1<9223372036854775808)) (K (.own st.nxt 0 te.size (n+1)) [(st.nxt,some (.lst e c))] (st.nxt+1) rd [])
     | .arr id off 0 0=>match n with
      |0=>K (.arr id off 0 0) [] st.nxt rd []
      |n+1=>If (decide ((n+1)*te.bytes<=1099511627776)&&decide (n+1<9223372036854775808)) (K (.own st.nxt 0 te.size (n+1)) [(st.nxt,some (.lst e c))] (st.nxt+1) rd [])
     | .own id 0 sz len=>bif Nat.beq sz te.size&& !(rd.any (Nat.beq id)) then (match aO st.store id with
      |some (.lst e' cs)=>bif Nat.beq e' e then
        If ((decide ((len+n)*te.bytes<=1099511627776)&&decide (len+n<9223372036854775808))&&decide (cs.length=len*sz)) (K (.own st.nxt 0 sz (len+n)) [(id,none),(st.nxt,some (.lst e (cs++c)))] (st.nxt+1) (id::rd) [id])
       else False
      |some (.row e' sz' len' g)=>bif Nat.beq e' e&&(Nat.beq sz' sz&&(Nat.beq n 1&&(ids.idsL c).isEmpty)) then
        If ((decide ((len+1)*te.bytes<=1099511627776)&&decide (len+1<9223372036854775808))&&decide (len'=len)) (K (.own st.nxt 0 sz (len+1)) [(id,none),(st.nxt,some (.row e sz (len+1) (bK len c g)))] (st.nxt+1) (id::rd) [id])
       else bif (ids.idsL c).isEmpty then wQ st e te s (some (n,fun i=>cut c (i*te.size) te.size,rd,true)) K else False
      |_=>False) else False
     |_=>False
    |none=>wQ st e te s (OM st te.size x) K) else False
   |none=>False
  | .slice e,.string=>match env.tt e,x with
   |some te,.str y=>bif Nat.beq te.zero.length te.size&&Nat.beq te.size 1 then wQ st e te s (some (y.size,FE y,[],true)) K else False
   |_,_=>False
  |_,_=>False
 |_,_=>False
def T6(env:Env)(t:TypeId)(x:SV)(st:St)(K:KV):Prop:=
 match env.tt t with
 |some ti=>match ti.kind,x with
  | .slice _,.ro 0 _ _=>K (.tup []) [] st.nxt [] []
  | .slice e,.own id _ sz _=>match env.tt e with
   |some te=>bif Nat.beq sz te.size&&(Nat.beq te.zero.length te.size&&te.zero.all bE)&&Nat.blt 0 te.size then (match aO st.store id with
    |some _=>K (.tup []) [(id,none)] st.nxt [] [id]
    |none=>False) else False
   |none=>False
  |_,_=>False
 |none=>False
def vE(off n:Nat)(h g:Nat->List SV):Nat->List SV:=fun i=>bif Nat.ble off i&&Nat.blt i (off+n) then h (i - off) else g i
def rowAt(st:St)(size:Nat)(x:SV):Option (Nat×(Nat->List SV)×List Nat×Bool):=
 match x with
 | .arr id 0 n _=>match aO st.store id with
  |some (.cells _ cs)=>bif (ids.idsL cs).isEmpty then some (n,fun i=>cut cs (i*size) size,[id],decide (n*size<=cs.length)) else none
  |_=>none
 | .own id off sz n=>match aO st.store id with
  |some (.row _ sz' len g)=>bif Nat.beq sz size&&Nat.beq sz' size then some (n,fun i=>g (i+off),[id],decide (off+n<=len)) else none
  |_=>none
 |_=>none
def EL(s:ByteArray)(n:Nat):List SV:=(s.data.toList.take n).map fun b=> .int .u8 b.toNat
def aDP(env:Env)(t u:TypeId)(x y:SV)(st:St)(K:KV):Prop:=
 match env.tt t,env.tt u with
 |some ti,some tu=>match ti.kind,tu.kind,x,y with
  | .slice e,.string,.arr id off len _,.str s=>match env.tt e with
   |some te=>bif Nat.beq te.size 1 then (match aO st.store id with
    |some (.cells e' cs)=>match oK cs off (EL s len) with
     |some cs'=>K (.int .i64 (Nat.min s.size len)) [(id,some (.cells e' cs'))] st.nxt [] [id]
     |none=>False
    |_=>False) else False
   |none=>False
  | .slice e,.slice _,.own id off sz len,y=>match env.tt e with
   |some te=>bif Nat.beq sz te.size then (match aO st.store id,rowAt st sz y with
    |some (.row e' sz' len' g),some (n,h,rd,c)=>bif Nat.beq sz' sz then
      (∀i,i<n->(h i).length=sz/\(h i).all bE=true)/\
      If (c&&decide (off+len<=len')) (K (.int .i64 (Nat.min n len)) [(id,some (.row e' sz len' (vE off (Nat.min n len) h g)))] st.nxt rd [id]) else False
    |_,_=>False) else False
   |none=>False
  |_,_,_,_=>False
 |_,_=>False
def bytesOf(l:List Int):ByteArray:=⟨(l.map fun n=>UInt8.ofNat n.toNat).toArray⟩
def uU :List SV->Bool
 | [.int .u8 _]=>true
 |_=>false
def FJ :List SV->Int
 | [.int .u8 n]=>n
 |_=>0
def oR(len:Nat)(g:Nat->List SV):List Int:=(List.range len).map fun i=>FJ (g i)
def xV(t:SV)(K:SV->Prop):Prop:=
 match t with
 | .nils=>K .nilp
 | .own id 0 _ n=>If (decide (0<n)) (K (.ptr id 0))
 |_=>False
def rF(env:Env)(t:TypeId)(p n:SV)(st:St)(K:KV):Prop:=
 match p,n with
 | .nilp,.int _ n=>If (decide (n=0)) (K (.str .empty) [] st.nxt [] [])
 | .ptr id 0,.int .i64 n=>match env.tt t with
  |some ti=>match ti.kind with
   | .ptr e=>match aO st.store id with
    |some (.row e' sz len g)=>bif Nat.beq sz 1&&(Nat.beq e' e&&(match env.tt e with|some te=>Nat.beq te.size 1|none=>false)) then
      (∀i,i<n.toNat->uU (g i)=true)/\If (decide (0<n)&&decide (n<=len)&&decide (n<9223372036854775808)) (K (.str (bytesOf (oR n.toNat g))) [(id,none)] st.nxt [id] [id])
      else False
    |_=>False
   |_=>False
  |none=>False
 |_,_=>False
def DL(env:Env)(b:Builtin)(ts:List TypeId)(xs:List SV)(st:St)(K:KV):Prop:=
 match b,ts,xs with
 | .append,t::u::_,[s,x]=>KH env t u s x st K
 | .clear,t::_,[x]=>T6 env t x st K
 | .copy,t::u::_,[x,y]=>aDP env t u x y st K
 | .len,t::_,[x]=>match x with
  | .ro n _ _=>bif dI env.tt t kN then K (.int .i64 n) [] st.nxt [] [] else False
  | .own _ _ _ n=>bif dI env.tt t kN then K (.int .i64 n) [] st.nxt [] [] else False
  | .arr _ _ n _=>bif dI env.tt t kN then K (.int .i64 n) [] st.nxt [] [] else False
  | .nils=>bif dI env.tt t kN then K (.int .i64 0) [] st.nxt [] [] else False
  | .emp=>bif dI env.tt t kN then K (.int .i64 0) [] st.nxt [] [] else False
  | .str s=>bif dI env.tt t w5 then K (.int .i64 s.size) [] st.nxt [] [] else False
  |_=>False
 | .max,_,.int k a::l=>match aAK k true a l with
  |some n=>K (.int k n) [] st.nxt [] []
  |none=>False
 | .min,_,.int k a::l=>match aAK k false a l with
  |some n=>K (.int k n) [] st.nxt [] []
  |none=>False
 | .unsafeSliceData,_,[x]=>xV x fun v=>K v [] st.nxt [] []
 | .unsafeString,[t,_],[p,n]=>rF env t p n st K
 |_,_,_=>False
def aBw(env:Env)(t:TypeId)(p:SV)(st:St)(K:KV):Prop:=
 match env.tt t with
 |none=>False
 |some ti=>match p with
  | .ptr id off=>match aO st.store id with
   |some (.cells _ cs)=>match fN ti (cut cs off ti.size) with
    |some v=>K v [] st.nxt [id] []
    |none=>False
   |some (.lst _ cs)=>bif Nat.blt 0 ti.size&&Nat.beq (cut cs off ti.size).length ti.size then (match fN ti (cut cs off ti.size) with
    |some v=>K v [] st.nxt [id] []
    |none=>False) else False
   |_=>False
  | .eptr id i sz o=>match aO st.store id with
   |some (.cells _ cs)=>match fN ti (cut cs (i*sz+o) ti.size) with
    |some v=>K v [] st.nxt [id] []
    |none=>False
   |some (.lst _ cs)=>bif Nat.blt 0 ti.size&&Nat.beq (cut cs (i*sz+o) ti.size).length ti.size then (match fN ti (cut cs (i*sz+o) ti.size) with
    |some v=>K v [] st.nxt [id] []
    |none=>False) else False
   |some (.row _ sz' len g)=>bif Nat.beq sz' sz&&(Nat.blt 0 ti.size&&Nat.beq (cut (g i) o ti.size).length ti.size) then If (decide (i<len)) (match fN ti (cut (g i) o ti.size) with
    |some v=>K v [] st.nxt [id] []
    |none=>False) else False
   |_=>False
  | .rptr cs=>match fN ti (cs.take ti.size) with
   |some v=>K v [] st.nxt [] []
   |none=>False
  |_=>False
def VN(env:Env)(t:TypeId)(p v:SV)(st:St)(K:KV):Prop:=
 match env.tt t with
 |none=>False
 |some ti=>match p with
  | .ptr id off=>match aO st.store id with
   |some (.cells e cs)=>
    bif Nat.beq (cellsOf v).length ti.size&&(cellsOf v).all bE then
     match oK cs off (cellsOf v) with
     |some cs'=>K (.tup []) [(id,some (.cells e cs'))] st.nxt [] [id]
     |none=>False
    else False
   |some (.lst e cs)=>
    bif Nat.beq (cellsOf v).length ti.size&&(cellsOf v).all bE then
     match oK cs off (cellsOf v) with
     |some cs'=>K (.tup []) [(id,some (.lst e cs'))] st.nxt [] [id]
     |none=>False
    else False
   |_=>False
  | .eptr id i sz o=>match aO st.store id with
   |some (.lst e cs)=>
    bif Nat.beq (cellsOf v).length ti.size&&(cellsOf v).all bE then
     match oK cs (i*sz+o) (cellsOf v) with
     |some cs'=>K (.tup []) [(id,some (.lst e cs'))] st.nxt [] [id]
     |none=>False
    else False
   |some (.row e sz' len g)=>
    bif Nat.beq sz' sz&&(Nat.beq (cellsOf v).length ti.size&&((cellsOf v).all bE&&(ids.idsL (cellsOf v)).isEmpty)) then
     match oK (g i) o (cellsOf v) with
     |some cs'=>If (decide (i<len)) (K (.tup []) [(id,some (.row e sz' len (bK i cs' g)))] st.nxt [] [id])
     |none=>False
    else False
   |_=>False
  |_=>False
def TW(env:Env)(t:TypeId)(parts:List (Nat×SV))(K:SV->Prop):Prop:=
 bif parts.all (fun q=>AJ q.2) then
 match env.tt t with
 |none=>False
 |some ti=>match ti.kind with
  | .struct fs=>match yS (fieldPlace env.tt fs) parts ti.zero with
   |some cs=>K (.agg cs)
   |none=>False
  | .array _ e=>match env.tt e with
   |some te=>match yS (fun i=>some (i*te.size,te.size)) parts ti.zero with
    |some cs=>K (.agg cs)
    |none=>False
   |none=>False
  |_=>False
 else False
def uT(env:Env)(t:TypeId)(len:Nat)(parts:List (Nat×SV))(st:St)(K:KV):Prop:=
 bif parts.all (fun q=>AJ q.2) then
 match env.tt t with
 |none=>False
 |some ti=>match ti.kind with
  | .slice e=>match env.tt e with
   |some te=>
    bif Nat.ble (len*te.size) 16777216&&Nat.beq te.zero.length te.size then
     match yS (fun i=>some (i*te.size,te.size)) parts (oM te.zero len) with
     |some cs=>If (decide (len<9223372036854775808)) (K (.arr st.nxt 0 len len) [(st.nxt,some (.cells e cs))] (st.nxt+1) [] [])
     |none=>False
    else False
   |none=>False
  |_=>False
 else False
def x0(env:Env)(s:TypeId)(p:SV)(f:Nat)(K:SV->Prop):Prop:=
 match env.tt s with
 |none=>False
 |some ti=>match ti.kind with
  | .struct fs=>match fieldPlace env.tt fs f with
   |some (off,size)=>match size with
    |0=>False
    |_+1=>match p with
     | .ptr id o=>K (.ptr id (o+off))
     | .eptr id i sz o=>K (.eptr id i sz (o+off))
     | .rptr cs=>K (.rptr (cs.drop off))
     |_=>False
   |none=>False
  |_=>False
def xW(env:Env)(t:TypeId)(x i:SV)(K:SV->Prop):Prop:=
 match env.tt t,i with
 |some ti,.int _ n=>match ti.kind with
  | .array len e=>match env.tt e with
   |some te=>match x with
    | .ptr id off=>If (decide (0<=n)&&decide (n<len)) (K (.ptr id (off+n.toNat*te.size)))
    |_=>False
   |none=>False
  | .slice e=>match env.tt e with
   |some te=>match x with
    | .ro len st get=>match Nat.beq st te.size with
     |true=>If (decide (0<=n)&&decide (n<len)) (K (.rptr (get n.toNat)))
     |false=>False
    | .arr id off len _=>If (decide (0<=n)&&decide (n<len)) (K (.ptr id (off+n.toNat*te.size)))
    | .own id off sz len=>bif Nat.beq sz te.size then If (decide (0<=n)&&decide (n<len)) (K (.eptr id (off+n.toNat) sz 0)) else False
    |_=>False
   |none=>False
  |_=>False
 |_,_=>False
def R9(env:Env)(t:TypeId)(x:SV)(f:Nat)(K:SV->Prop):Prop:=
 match env.tt t,x with
 |some ti,.agg cs=>match ti.kind with
  | .struct fs=>match fs[f]? with
   |some (off,u)=>match env.tt u with
    |some tu=>match fN tu (cut cs off tu.size) with
     |some v=>K v
     |none=>False
    |none=>False
   |none=>False
  |_=>False
 |_,_=>False
def UW(env:Env)(t:TypeId)(x i:SV)(K:SV->Prop):Prop:=
 match env.tt t,i with
 |some ti,.int _ n=>match ti.kind,x with
  | .array len e,.agg cs=>match env.tt e with
   |some te=>If (decide (0<=n)&&decide (n<len)) (match fN te (cut cs (n.toNat*te.size) te.size) with
    |some v=>K v
    |none=>False)
   |none=>False
  | .string,.str s=>If (decide (0<=n)&&decide (n<s.size)) (K (.int .u8 (s.data.getD n.toNat 0).toNat))
  |_,_=>False
 |_,_=>False
def byteCells :List SV->Option (List Int)
 | []=>some []
 | .int .u8 n::l=>match byteCells l with
  |some r=>some (n::r)
  |none=>none
 |_=>none
def RP(env:Env)(src dst:TypeId)(id off len:Nat)(st:St)(K:KV):Prop:=
 match env.tt src,env.tt dst with
 |some ts,some td=>match ts.kind,td.kind with
  | .slice e,.string=>match env.tt e with
   |some te=>match te.kind with
    | .int .u8=>match aO st.store id with
     |some (.cells _ cs)=>match byteCells (cut cs off len) with
      |some l=>bif Nat.beq l.length len then If (decide (len<9223372036854775808)) (K (.str (bytesOf l)) [] st.nxt [id] []) else False
      |none=>False
     |_=>False
    |_=>False
   |none=>False
  |_,_=>False
 |_,_=>False
def mJ(x:Option SV)(d:Nat):Option Int:=
 match x with
 |none=>some d
 |some (.int _ n)=>some n
 |some _=>none
def TS(env:Env)(t:TypeId)(x:SV)(low high:Option SV)(K:SV->Prop):Prop:=
 match env.tt t with
 |none=>False
 |some ti=>match ti.kind,x with
  | .string,.str s=>match mJ low 0,mJ high s.size with
   |some l,some h=>If (decide (0<=l)&&(decide (l<=h)&&decide (h<=s.size))) (K (.str (s.extract l.toNat h.toNat)))
   |_,_=>False
  | .slice e,.arr id off len cap=>match env.tt e with
   |some te=>match mJ low 0,mJ high len with
    |some l,some h=>If (decide (0<=l)&&(decide (l<=h)&&decide (h<=cap))&&decide (cap<9223372036854775808)) (K (.arr id (bif Nat.beq cap l.toNat then off else off+l.toNat*te.size) (h.toNat - l.toNat) (cap - l.toNat)))
    |_,_=>False
   |none=>False
  | .slice e,.ro len st get=>match env.tt e with
   |some te=>match mJ low 0,mJ high len with
    |some l,some h=>match Nat.beq st te.size with
     |true=>If (decide (0<=l)&&(decide (l<=h)&&decide (h<=len))) (K (.ro (h.toNat - l.toNat) st (fun i=>get (i+l.toNat))))
     |false=>False
    |_,_=>False
   |none=>False
  | .slice e,.own id off sz len=>match env.tt e with
   |some te=>match mJ low 0,mJ high len with
    |some l,some h=>match Nat.beq sz te.size with
     |true=>If (decide (0<=l)&&(decide (l<=h)&&decide (h<=len))&&decide (len<9223372036854775808)) (match decide (l<h) with
      |true=>K (.own id (off+l.toNat) sz (h.toNat - l.toNat))
      |false=>K (.ro 0 sz (fun _=>[])))
     |false=>False
    |_,_=>False
   |none=>False
  | .array n e,.ptr id off=>match env.tt e with
   |some te=>match mJ low 0,mJ high n with
    |some l,some h=>If (decide (0<=l)&&(decide (l<=h)&&decide (h<=n))&&decide (n<9223372036854775808)) (K (.arr id (bif Nat.beq n l.toNat then off else off+l.toNat*te.size) (h.toNat - l.toNat) (n - l.toNat)))
    |_,_=>False
   |none=>False
  |_,_=>False
def MS(env:Env)(t:TypeId)(x:SV)(low high:Option SV)(mx:SV)(K:SV->Prop):Prop:=
 match env.tt t with
 |none=>False
 |some ti=>match ti.kind,x with
  | .slice e,.ro len st get=>match env.tt e with
   |some te=>match mJ low 0,high,mx with
    |some l,some (.int _ h),.int _ m=>match Nat.beq st te.size with
     |true=>If (decide (0<=l)&&(decide (l<=h)&&(decide (h<=m)&&decide (m<=len)))) (K (.ro (h.toNat - l.toNat) st (fun i=>get (i+l.toNat))))
     |false=>False
    |_,_,_=>False
   |none=>False
  |_,_=>False
def GJ(g:Nat->List SV):Nat->List SV
 |0=>[]
 |n+1=>GJ g n++g n
def EI(g:Nat->List SV)(st:Nat):Nat->Bool
 |0=>true
 |n+1=>Nat.beq (g n).length st&&EI g st n
def EW(env:Env)(t:TypeId)(x:SV)(K:SV->Prop):Prop:=
 match env.tt t,x with
 |some ti,.ro len st get=>match ti.kind with
  | .array n _=>bif Nat.blt 0 n&&EI get st n then If (decide (n<=len)) (K (.rptr (GJ get n))) else False
  |_=>False
 |_,_=>False
def yJ(env:Env)(t:TypeId)(n c:SV)(st:St)(K:KV):Prop:=
 match env.tt t,n,c with
 |some ti,.int _ a,.int _ b=>match ti.kind with
  | .slice e=>match env.tt e with
   |some te=>bif Nat.beq te.zero.length te.size&&Nat.blt 0 te.size then If (decide (0<=a)&&(decide (a<=b)&&(decide (b*te.bytes<=1099511627776)&&decide (b<9223372036854775808))))
     (K (.own st.nxt 0 te.size a.toNat) [(st.nxt,some (.row e te.size a.toNat (fun _=>te.zero)))] (st.nxt+1) [] []) else False
   |none=>False
  |_=>False
 |_,_,_=>False
def BJ(env:Env)(src dst:TypeId):Bool:=
 match env.tt src,env.tt dst with
 |some ts,some td=>match ts.kind,td.kind with
  | .slice e,.string=>match env.tt e with
   |some te=>match te.kind with
    | .int .u8=>true
    |_=>false
   |none=>false
  |_,_=>false
 |_,_=>false
def CZ(env:Env)(src dst:TypeId)(len sz:Nat)(g:Nat->List SV)(st:St)(K:KV):Prop:=
 bif BJ env src dst&&Nat.beq sz 1 then
  (∀i,i<len->uU (g i)=true)/\If (decide (len<9223372036854775808)) (K (.str (bytesOf (oR len g))) [] st.nxt [] [])
 else False
def KA(env:Env)(src dst:TypeId)(id sz len:Nat)(st:St)(K:KV):Prop:=
 bif BJ env src dst&&Nat.beq sz 1 then
  (match aO st.store id with
  |some (.row _ sz' len' g)=>bif Nat.beq sz' 1 then
    (∀i,i<len->uU (g i)=true)/\If (decide (len<9223372036854775808)&&decide (len<=len')) (K (.str (bytesOf (oR len g))) [] st.nxt [id] []) else False
  |_=>False)
 else False
def KL(env:Env)(src dst:TypeId)(id off:Nat)(st:St)(K:KV):Prop:=
 match env.tt src,env.tt dst,aO st.store id with
 |some ts,some td,some (.cells e cs)=>match ts.kind,td.kind with
  | .ptr e',.other=>match env.tt e' with
   |some te=>bif Nat.blt 0 te.size&&Nat.blt off cs.length then K (.ptr id off) [] st.nxt [id] [] else False
   |none=>False
  | .other,.ptr e'=>match env.tt e' with
   |some te=>bif Nat.beq e e'&&(Nat.beq off 0&&(Nat.beq cs.length te.size&&Nat.blt 0 te.size)) then K (.ptr id 0) [] st.nxt [id] [] else False
   |none=>False
  |_,_=>False
 |_,_,_=>False
def UM(env:Env)(t:TypeId)(x:SV)(st:St)(K:KV):Prop:=
 match x with
 | .str s=>bif dI env.tt t w5 then K (.ptr st.nxt 0) [(st.nxt,some (.iter s 0))] (st.nxt+1) [] [] else False
 |_=>False
def aDv(p:SV)(st:St)(K:KV):Prop:=
 match p with
 | .ptr id 0=>match aO st.store id with
  |some (.iter s pos)=>Br (decide (pos<s.size)) (K (.tup [.bool true,.int .i64 pos,.int .i32 (Utf8.decode s pos).1]) [(id,some (.iter s (pos+(Utf8.decode s pos).2)))] st.nxt [id] [id])
    (K (.tup [.bool false]) [] st.nxt [id] [])
  |_=>False
 |_=>False
def qV :Operand->Bool
 | .const _=>true
 |_=>false
def LG(env:Env)(st:St)(op:Op)(K:KV):Prop:=
 let e:=eval st.tmps
 let p:(SV->Prop):=fun v=>K v [] st.nxt [] []
 match op with
 | .move x=>p (e x)
 | .assign x=>p (e x)
 | .pick c a b=>match e c with
  | .bool c=>p (sel c (e a) (e b))
  |_=>False
 | .alloc t=>match env.tt t with
  |some ti=>K (.ptr st.nxt 0) [(st.nxt,some (.cells t ti.zero))] (st.nxt+1) [] []
  |none=>False
 | .box t x=>match e x with
  | .junk=>False
  |v=>K (.ptr st.nxt 0) [(st.nxt,some (.cells t (cellsOf v)))] (st.nxt+1) [] []
 | .build t ps=>TW env t (ps.toList.map fun q=>(q.1,e q.2)) p
 | .buildSlice t n ps=>uT env t n (ps.toList.map fun q=>(q.1,e q.2)) st K
 | .load t a=>aBw env t (e a) st K
 | .store t a x=>VN env t (e a) (e x) st K
 | .nilCheck x=>match e x with
  | .ptr i o=>p (.ptr i o)
  | .eptr id i sz o=>p (.eptr id i sz o)
  | .rptr cs=>p (.rptr cs)
  |_=>False
 | .binOp op t x y _=>KY env.tt op t (qV x||qV y) (e x) (e y) p
 | .unOp op _ x=>aDU op (e x) p
 | .convert src dst x=>match e x with
  | .arr id off len _=>RP env src dst id off len st K
  | .ro len sz g=>CZ env src dst len sz g st K
  | .nils=>CZ env src dst 0 1 (fun _=>[]) st K
  | .own id 0 sz len=>KA env src dst id sz len st K
  | .ptr id off=>KL env src dst id off st K
  |v=>DG env.tt src dst v p
 | .slice t x lo hi mx=>match mx with
  |none=>TS env t (e x) (lo.map e) (hi.map e) p
  |some m=>MS env t (e x) (lo.map e) (hi.map e) (e m) p
 | .sliceToArrayPointer t x=>EW env t (e x) p
 | .makeSlice t n c=>yJ env t (e n) (e c) st K
 | .makeFunc f a b=>p (.fn f (a.toList.map e) (b.toList.map e))
 | .fieldAddr s x f=>x0 env s (e x) f p
 | .field s x f=>R9 env s (e x) f p
 | .indexAddr t x i=>xW env t (e x) (e i) p
 | .index t x i=>UW env t (e x) (e i) p
 | .range t x=>UM env t (e x) st K
 | .next x b=>bif b then aDv (e x) st K else False
 | .extract x i=>match e x with
  | .tup vs=>match vs[i]? with
   |some v=>p v
   |none=>False
  |_=>False
 | .makeInterface t x=>match env.tt t with
  |some ti=>bif qJ ti.kind then False else p (.iface t (e x))
  |none=>False
 | .call c=>match c.callee with
  | .value f=>match e f with
   | .fn (.func k) first cap=>HT env st k (first++c.args.toList.map e++cap) K
   | .yld id=>VF env st id (c.args.toList.map e) K
   |_=>False
  | .builtin b=>DL env b c.argTypes.toList (c.args.toList.map e) st K
  |_=>False
 |_=>False
structure Rec where
 i:Nat
 dst:Option Nat
 looks:List Nat
 rd:List Nat
 wr:List Nat
def zM(o:Oper):List Nat:=o.op.operands.toList.filterMap fun| .tmp t=>some t|_=>none
def kT(l:List Nat):List Nat->List Nat
 | []=>l
 |x::r=>bif l.any (Nat.beq x) then kT l r else kT (x::l) r
def vF(st:St)(d:Option Nat)(v:SV)(u:eD)(n:Nat)(wr:List Nat):St:=
 {tmps:=match d with
   |some d=>(d,v)::st.tmps
   |none=>st.tmps
  store:=u++st.store,nxt:=n,dirty:=kT st.dirty wr,nt:=st.nt}
def u6(a:Nat):Nat->List Nat
 |0=>[]
 |k+1=>a::u6 (a+1) k
def nN(env:Env)(all:List Oper):List Oper->Nat->St->List Rec->(St->List Rec->Prop)->Prop
 | [],_,st,tr,K=>K st tr
 |o::r,i,st,tr,K=>
  let run:=fun (st:St) (g:List Nat)=>LG env st o.op fun v u n rd wr=>
   nN env all r (i+1) (vF st o.dst v u n wr) (⟨i,o.dst,g++zM o,rd,wr++u6 st.nxt (n - st.nxt)⟩::tr) K
  match o.guard with
  |none=>run st []
  |some (j,want)=>match (all[j]?).bind (·.dst) with
   |none=>False
   |some t=>
    let skip:=fun (st:St)=>nN env all r (i+1) (vF st o.dst (.tup []) [] st.nxt []) (⟨i,o.dst,[t],[],[]⟩::tr) K
    match get st.tmps t with
    | .bool b=>Br b (bif want then run {st with tmps:=rC st.tmps t (.bool true)} [t] else skip {st with tmps:=rC st.tmps t (.bool true)})
      (bif want then skip {st with tmps:=rC st.tmps t (.bool false)} else run {st with tmps:=rC st.tmps t (.bool false)} [t])
    | .tup []=>skip st
    |_=>False
def k9 :List Oper->List Nat->List Nat
 | [],acc=>acc
 |o::r,acc=>k9 r (acc++[o.after.toList.foldl (fun s e=>bif Region.binds .any e then s|||(1<<<e.on)|||acc.getD e.on 0 else s) 0])
def zT(a b:List Nat):Bool:=a.any fun x=>b.any (Nat.beq x)
def uA(a b:Rec):Bool:=
 zT a.wr b.rd||zT a.wr b.wr||zT a.rd b.wr||
 (match a.dst with
  |some d=>b.looks.any (Nat.beq d)||(match b.dst with|some c=>Nat.beq c d|none=>false)
  |none=>false)||
 (match b.dst with
  |some d=>a.looks.any (Nat.beq d)
  |none=>false)
def lR(bs:List Nat):List Rec->Bool
 | []=>true
 |b::r=>(r.all fun a=> !uA a b||(bs.getD b.i 0).testBit a.i)&&lR bs r
def pH :Nat->List Oper->Bool
 |_,[]=>true
 |i,o::r=>(o.after.toList.all fun e=> !Region.binds .any e||Nat.blt e.on i)&&pH (i+1) r
def EE(nt:Nat)(ops:List Oper):Bool:=ops.all fun o=>match o.dst with
 |some d=>Nat.blt d nt
 |none=>true
def iter(E:(Ex->St->Prop)->St->Prop)(K:Ex->St->Prop):Nat->St->Prop
 |0,_=>False
 |n+1,st=>E (fun e s=>match e with
  | .normal=>iter E K n s
  |e=>K e s) st
def wk(f:St->Option St)(K:St->Prop)(s:St):Prop:=match f s with
 |some s'=>K s'
 |none=>False
def MR(env:Env)(k:FuncId):Bool:=match env.ft k with
 |some fn=>fn.body.isNone
 |none=>true
def o8 :Code->List Nat
 | .seq a b=>o8 a++o8 b
 | .cond c a b=>(match c with| .tmp t=>[t]|_=>[])++(o8 a++o8 b)
 | .block _ a=>o8 a
 | .loop a=>o8 a
 | .region _ ops _=>ops.toList.flatMap zM
 | .rangeFunc g _ a b=>(match g with| .tmp t=>[t]|_=>[])++(o8 a++o8 b)
 |_=>[]
def qW(l:mQ)(ts:List Nat):mQ:=
 match l with
 | []=>[]
 |(t,v)::r=>bif ts.any (Nat.beq t) then (t,v)::qW r ts else (t,.junk)::qW r ts
def tK(nt:Nat):List Nat->Bool
 | []=>true
 |p::r=>Nat.blt p nt&&(!(r.any (Nat.beq p))&&tK nt r)
def fA(env:Env)(W:Nat->St->Option St)(blk:Nat):Code->(Ex->St->Prop)->St->Prop
 | .skip,K,st=>K .normal st
 | .seq a b,K,st=>fA env W blk a (fun e s=>match e with
  | .normal=>fA env W blk b K s
  |e=>K e s) st
 | .cond c a b,K,st=>match c with
  | .tmp t=>match get st.tmps t with
   | .bool c=>Br c (fA env W blk a K {st with tmps:=rC st.tmps t (.bool true)})
     (fA env W blk b K {st with tmps:=rC st.tmps t (.bool false)})
   |_=>False
  | .const (.bool true)=>fA env W blk a K st
  | .const (.bool false)=>fA env W blk b K st
  |_=>False
 | .block id a,K,st=>fA env W id a (fun e s=>match e with
  | .exit i=>bif Nat.beq i id then K .normal s else K (.exit i) s
  |e=>K e s) st
 | .loop a,K,st=>match env.unroll blk with
  |0=> ∃n,wk (W blk) (iter (fun K s=>fA env W blk a (fun e=>wk (W blk) (K e)) s) K n) st
  |u+1=>iter (fA env W blk a) K (u+1) st
 | .exit id,K,st=>K (.exit id) st
 | .ret,K,st=>K .ret st
 | .region id ops draw,K,st=>
  let go:=fun (s:St)=>bif draw then
    (bif pH 0 ops.toList then nN env ops.toList ops.toList 0 s [] fun s tr=>If (lR (k9 ops.toList []) tr) (K .normal s) else False)
   else nN env ops.toList ops.toList 0 s [] fun s _=>K .normal s
  bif EE st.nt ops.toList then (bif env.cut id then wk (W (id+2000000)) (fun s'=>If (Nat.beq s'.nt st.nt) (go s')) st else go st) else False
 | .rangeFunc g ps assign body,K,st=>bif env.rnd|| !(tK st.nt ps.toList) then False else match eval st.tmps g with
  | .fn (.func k) first cap=>bif MR env k then False else
   let s1:St:={st with store:=(st.nxt,some (.loop (qW st.tmps (o8 assign++o8 body)) st.nt ps.toList assign body .ready))::st.store,nxt:=st.nxt+1}
   HT env s1 k (first++[.yld st.nxt]++cap) fun v u n _ wr=>
    let s2:=vF s1 none v u n wr
    match aO s2.store st.nxt with
    |some (.loop _ _ _ _ _ pend)=>
     let s3:St:={s2 with store:=(st.nxt,none)::s2.store}
     match pend with
     | .ready=>K .normal s3
     | .left e=>K e s3
     | .busy=>False
    |_=>False
  |_=>False
 |_,_,_=>False
def C0(env:Env)(st:St):ResultVar->Option SV
 | .tmp t=>some (get st.tmps t)
 | .cell a t=>match env.tt t,get st.tmps a with
  |some ti,.ptr id off=>match aO st.store id with
   |some (.cells _ cs)=>fN ti (cut cs off ti.size)
   |_=>none
  |_,_=>none
def sM(env:Env)(st:St):List ResultVar->Option (List SV)
 | []=>some []
 |r::l=>match C0 env st r,sM env st l with
  |some v,some vs=>some (v::vs)
  |_,_=>none
def rP :Nat->List Nat
 |0=>[]
 |n+1=>rP n++[n]
def J8 :List SV->SV
 | [v]=>v
 |vs=> .tup vs
def wG(n0:Nat)(v:SV)(K:SV->List (Option SB)->List Nat->Prop)(st:St):Prop:=
 let F:=iZ st.store 200 (rP n0++ids v) []
 let G:=rP n0++F.filter fun i=>Nat.ble n0 i
 let f:=fun i=>idx G i 0
 K (ren f v) (G.map fun i=>(aO st.store i).map (mB f)) (st.dirty.filter fun i=>Nat.blt i n0)
def MM(env:Env)(n0:Nat)(rs:List ResultVar)(K:SV->List (Option SB)->List Nat->Prop)(st:St):Prop:=
 match sM env st rs with
 |none=>False
 |some vs=>wG n0 (J8 vs) K st
def params(xs:List SV)(i:Nat):mQ:=
 match xs with
 | []=>[]
 |a::l=>(i,a)::params l (i+1)
def uX(σ:List (Option SB))(i:Nat):eD:=
 match σ with
 | []=>[]
 |a::l=>(i,a)::uX l (i+1)
def aEp :List Nat->List SV->mQ
 |p::ps,x::xs=>(p,x)::aEp ps xs
 |_,_=>[]
def AY(env:Env)(W:Nat->Nat->St->Option St)(xs:List SV)(σ:List (Option SB))(K:SV->List (Option SB)->List Nat->Prop):Prop:=
 match σ with
 |some (.loop tm nt ps assign body .ready)::r=>
  let n0:=r.length+1
  bif Nat.beq ps.length xs.length&&tK nt ps then
   fA env (W n0) 1000000 assign (fun e s=>match e with
    | .normal=>(match aO s.store 0 with
     |some (.loop tm1 nt1 ps1 as1 bd1 .ready)=>
      fA env (W n0) 1000000 body (fun e s=>match aO s.store 0 with
       |some (.loop tm2 nt2 ps2 as2 bd2 .busy)=>match e with
        | .normal=>wG n0 (.bool true) K {s with store:=(0,some (.loop tm2 nt2 ps2 as2 bd2 .ready))::s.store,dirty:=kT s.dirty [0]}
        |e=>wG n0 (.bool false) K {s with store:=(0,some (.loop tm2 nt2 ps2 as2 bd2 (.left e)))::s.store,dirty:=kT s.dirty [0]}
       |_=>False) {s with store:=(0,some (.loop tm1 nt1 ps1 as1 bd1 .busy))::s.store,dirty:=kT s.dirty [0]}
     |_=>False)
    |_=>False) ⟨aEp ps xs++tm,uX σ 0,n0,[],nt⟩
  else False
 |_=>False
def VQ(env:Env)(W:Nat->Nat->St->Option St)(fn:Func)(xs:List SV)(σ:List (Option SB))(K:SV->List (Option SB)->List Nat->Prop):Prop:=
 match fn.body with
 |none=>False
 |some c=>fA env (W σ.length) 1000000 c (fun e s=>match e with
  | .exit _=>False
  |_=>MM env σ.length fn.results.toList K s) ⟨params xs 0,uX σ 0,σ.length,[],xs.length+(fn.ntmps - xs.length)⟩
def calls(env:Env)(W:Nat->Nat->St->Option St)(known:FuncId->Bool):Nat->FuncId->List SV->List (Option SB)->(SV->List (Option SB)->List Nat->Prop)->Prop
 |0,k,xs,σ,K=>env.callee k xs σ K
 |d+1,k,xs,σ,K=>bif known k then env.callee k xs σ K else match env.ft k with
  |none=>False
  |some fn=>VQ {env with callee:=calls env W known d,round:=fun xs σ K=>roundsN env W known d xs σ K} W fn xs σ K
where roundsN (env:Env) (W:Nat->Nat->St->Option St) (known:FuncId->Bool):Nat->List SV->List (Option SB)->(SV->List (Option SB)->List Nat->Prop)->Prop
 |0,_,_,_=>False
 |d+1,xs,σ,K=>AY {env with callee:=calls env W known d,round:=fun xs σ K=>roundsN env W known d xs σ K,rnd:=true} W xs σ K
def zeroCells :List Value->Option (List SV)
 | []=>some []
 |v::l=>match v,zeroCells l with
  | .int k n,some r=>bif decide (n=0) then some (.int k 0::r) else none
  | .bool b,some r=>some (.bool b::r)
  | .string s,some r=>bif Nat.beq s.size 0 then some (.str s::r) else none
  | .pointer none,some r=>some (.nilp::r)
  | .slice none 0 0,some r=>some (.nils::r)
  | .nilFunc,some r=>some (.nilfn::r)
  | .nilIface,some r=>some (.nilI::r)
  |_,_=>none
def lM(d:TypeDesc):Option TK:=
 match d with
 | .bool=>some .bool
 | .int k=>some (.int k)
 | .string=>some .string
 | .pointer e=>some (.ptr e)
 | .slice e=>some (.slice e)
 | .array n e=>some (.array n e)
 | .struct fs=>bif fs.toList.all (fun f=>f.name != "_") then some (.struct (fs.toList.map fun f=>(f.offset,f.type))) else none
 | .func _ _ _=>some .func
 | .interface ms=>some (.iface ms.isEmpty)
 | .map k e=>some (.map k e)
 | .unsafePointer=>some .other
 |_=>none
def UV(P:Program)(t:TypeId):TK->Bool
 | .struct fs=> !P.stoodInHeld t&&fs.all (fun f=>(P.info? f.2).isSome)
 |_=>true
def aKO(P:Program)(t:TypeId):Option TI:=
 match P.info? t,P.underlying t with
 |some i,some d=>match i.zero,lM d with
  |some z,some k=>match zeroCells z.cells.toList with
   |some cs=>bif UV P t k then some ⟨k,i.size,i.bytes,cs⟩ else none
   |none=>none
  |_,_=>none
 |_,_=>none
def L7(l:List (FuncId×Func))(t:FuncId):Option Func:=
 match l with
 | []=>none
 |(u,i)::l=>bif Nat.beq u t then some i else L7 l t
theorem aFF {P:Program} {l:List (FuncId×Func)} (h: ∀p∈l,P.funcs[p.1]? =some p.2) {t:FuncId} {f:Func}
  (ht:L7 l t=some f):P.funcs[t]? =some f:=by
 induction l with
 |nil=>simp [L7] at ht
 |cons p l ih=>
  obtain ⟨u,j⟩:=p
  simp only [L7] at ht
  cases e:Nat.beq u t with
  |true=>
   rw [e] at ht
   simp only [ar,an] at ht
   rw [<- ht,<- ai e];exact h (u,j) (by simp)
  |false=>rw [e] at ht;exact ih (fun p hp=>h p (by simp [hp])) ht
abbrev aL :=Nat->Option Nat
mutual
def rel(ρ:aL)(T:Nat->Prop)(w:World):SV->Value->Prop
 | .junk,_=>True
 | .int k n,v=>v= .int k n/\k.min<=n/\n<=k.max
 | .bool b,v=>v= .bool b
 | .str s,v=>v= .string s/\s.size<9223372036854775808
 | .nilp,v=>v= .pointer none
 | .ptr id off,v=> ∃b,ρ id=some b/\v= .pointer (some ⟨b,off,none⟩)
 | .eptr id i st o,v=> ∃b,ρ id=some b/\v= .pointer (some ⟨b,i*st+o,none⟩)
 | .rptr cs,v=> ∃b off,v= .pointer (some ⟨b,off,none⟩)/\b<w.heap.size/\ ¬T b/\fJ T w cs b off
 | .fn f x y,v=> ∃a c,v= .func f a c/\aX ρ T w x a.toList/\aX ρ T w y c.toList
 | .nilfn,v=>v= .nilFunc
 | .agg cs,v=> ∃a,v= .agg a/\aX ρ T w cs a.toList
 | .tup cs,v=> ∃a,v= .tuple a/\aX ρ T w cs a.toList
 | .nils,v=>v= .slice none 0 0
 | .emp,v=> ∃a c,v= .slice (some a) 0 c
 | .arr id off len cap,v=>(∃b,ρ id=some b/\v= .slice (some ⟨b,off,none⟩) len cap)/\len<9223372036854775808
 | .own id off st len,v=> ∃b c,ρ id=some b/\v= .slice (some ⟨b,off*st,none⟩) len c/\len<=c/\c<9223372036854775808/\
   ∃vs e f,w.heap[b]? =some (.cells vs e f)/\off*st+c*st<=vs.size
 | .ro len st get,v=> ∃a c,v= .slice a len c/\(len<=c/\len<9223372036854775808/\(a=none->c=0))/\
   (0<len-> ∃b off,a=some ⟨b,off,none⟩/\b<w.heap.size/\ ¬T b/\ ∀i,i<len->fJ T w (get i) b (off+i*st))
 | .nilI,v=>v= .nilIface
 | .iface t x,v=> ∃y,v= .iface t y/\rel ρ T w x y
 | .yld id,v=> ∃b,ρ id=some b/\v= .func (.yield b) #[] #[]
def aX(ρ:aL)(T:Nat->Prop)(w:World):List SV->List Value->Prop
 | [],m=>m=[]
 |a::l,m=> ∃v r,m=v::r/\rel ρ T w a v/\aX ρ T w l r
def fJ(T:Nat->Prop)(w:World):List SV->Nat->Nat->Prop
 | [],_,_=>True
 |a::l,b,o=>(∃v,w.cell? ⟨b,o,none⟩=some v/\rel (fun _=>none) T w a v)/\fJ T w l b (o+1)
end
structure bG (T:Nat->Prop) (w w':World):Prop where
 size:w.heap.size<=w'.heap.size
 same: ∀b,b<w.heap.size-> ¬T b->w'.heap[b]? =w.heap[b]?
 shape: ∀(b:Nat) (vs:Array Value) (e:TypeId) (f:Nat×Nat),w.heap[b]? =some (.cells vs e f)-> ∃(vs':Array Value) (f':Nat×Nat),w'.heap[b]? =some (.cells vs' e f')/\vs'.size=vs.size
 os:w'.os=w.os
 output:w'.output=w.output
 tape:w'.tape=w.tape
theorem bG.refl(T:Nat->Prop)(w:World):bG T w w:=
 ⟨av _,fun _ _ _=>rfl,fun _ vs _ f h=>⟨vs,f,h,rfl⟩,rfl,rfl,rfl⟩
theorem bG.mono{T T':Nat->Prop}{w w':World}(h:bG T w w')(hT: ∀b,b<w.heap.size->T b->T' b):bG T' w w':=
 ⟨h.size,fun b hb hn=>h.same b hb fun ht=>hn (hT b hb ht),h.shape,h.os,h.output,h.tape⟩
theorem bG.trans{T T':Nat->Prop}{w w' w'':World}(h:bG T w w')(h':bG T' w' w'')(hT: ∀b,b<w.heap.size->T' b->T b):bG T w w'':=by
 refine ⟨fu h.size h'.size,fun b hb hn=> ?_,fun b vs e f hb=> ?_,h'.os.trans h.os,h'.output.trans h.output,h'.tape.trans h.tape⟩
 ·rw [h'.same b (dm hb h.size) (fun ht=>hn (hT b hb ht)),h.same b hb hn]
 ·obtain ⟨vs',f',h1,h2⟩:=h.shape b vs e f hb
  obtain ⟨vs'',f'',h3,h4⟩:=h'.shape b vs' e f' h1
  exact ⟨vs'',f'',h3,h4.trans h2⟩
def yU(P:Program):Option (Nat×Value):=
 match P.globalNamed "errors.errorType",(P.cutTypes.find? (·.1== "internal/reflectlite.rtype")).map (·.2),(List.range P.types.size).filter fun t=>P.rowNamed t [101,114,114,111,114] with
 |some g,some r,[t]=>some (g,.iface r (.agg #[typeHandle P t]))
 |_,_,_=>none
def Inv(P:Program)(T:Nat->Prop)(w:World):Prop:= ∀g v,yU P=some (g,v)-> ¬T g/\w.cell? ⟨g,0,none⟩=some v
theorem xS{w:World}{a:Addr}{v:Value}(h:w.cell? a=some v):a.block<w.heap.size:=by
 unfold World.cell? at h
 cases hb:w.heap[a.block]? with
 |none=>rw [hb] at h;simp at h
 |some o=>exact (bk.1 hb).1
theorem Inv.grow{P:Program}{T T':Nat->Prop}{w w':World}(h:Inv P T w)(hT: ∀b,b<w.heap.size->T' b->T b)(hw:bG T w w'):Inv P T' w':=fun g v hg=>by
 obtain ⟨h1,h2⟩:=h g v hg
 have hlt:=xS h2
 refine ⟨fun ht=>h1 (hT _ hlt ht), ?_⟩
 have:=hw.same g hlt h1
 unfold World.cell? at h2|-
 rw [this];exact h2
theorem JN{w w':World}{b o:Nat}(h:w'.heap[b]? =w.heap[b]?):w'.cell? ⟨b,o,none⟩=w.cell? ⟨b,o,none⟩:=by
 unfold World.cell?;rw [h]
section
variable {T T':Nat->Prop} {w w':World}
mutual
theorem iW{ρ ρ':aL}(hρ: ∀id b,ρ id=some b->ρ' id=some b)(hT: ∀b,b<w.heap.size->T' b->T b)(hw:bG T w w'):
  ∀(a:SV) (v:Value),rel ρ T w a v->rel ρ' T' w' a v
 | .junk,_,_=>trivial
 | .int _ _,_,h=>h
 | .bool _,_,h=>h
 | .str _,_,h=>h
 | .nilp,_,h=>h
 | .ptr id off,v,⟨b,h1,h2⟩=>⟨b,hρ _ _ h1,h2⟩
 | .eptr id i st o,v,⟨b,h1,h2⟩=>⟨b,hρ _ _ h1,h2⟩
 | .rptr cs,v,⟨b,off,h1,hb,h2,h3⟩=>⟨b,off,h1,dm hb hw.size,fun ht=>h2 (hT b hb ht),yB hT hw cs b off h2 h3⟩
 | .fn f x y,v,⟨a,c,h1,h2,h3⟩=>⟨a,c,h1,bB hρ hT hw x _ h2,bB hρ hT hw y _ h3⟩
 | .nilfn,_,h=>h
 | .agg cs,v,⟨a,h1,h2⟩=>⟨a,h1,bB hρ hT hw cs _ h2⟩
 | .tup cs,v,⟨a,h1,h2⟩=>⟨a,h1,bB hρ hT hw cs _ h2⟩
 | .nils,_,h=>h
 | .emp,_,h=>h
 | .arr id off len cap,v,⟨⟨b,h1,h2⟩,h3⟩=>⟨⟨b,hρ _ _ h1,h2⟩,h3⟩
 | .own id off st len,v,⟨b,c,h1,h2,h3,h4,vs,e,f,h5,h6⟩=>by
  obtain ⟨vs',f',h7,h8⟩:=hw.shape b vs e f h5
  exact ⟨b,c,hρ _ _ h1,h2,h3,h4,vs',e,f',h7,by omega⟩
 | .ro len st g,v,⟨a,c,h1,h2,h3⟩=>⟨a,c,h1,h2,fun hl=>by
   obtain ⟨b,off,h4,hb,h5,h6⟩:=h3 hl
   exact ⟨b,off,h4,dm hb hw.size,fun ht=>h5 (hT b hb ht),fun i hi=>yB hT hw (g i) b _ h5 (h6 i hi)⟩⟩
 | .nilI,_,h=>h
 | .iface t x,v,⟨y,h1,h2⟩=>⟨y,h1,iW hρ hT hw x y h2⟩
 | .yld id,v,⟨b,h1,h2⟩=>⟨b,hρ _ _ h1,h2⟩
theorem bB{ρ ρ':aL}(hρ: ∀id b,ρ id=some b->ρ' id=some b)(hT: ∀b,b<w.heap.size->T' b->T b)(hw:bG T w w'):
  ∀(l:List SV) (m:List Value),aX ρ T w l m->aX ρ' T' w' l m
 | [],_,h=>h
 |a::l,_m,⟨v,r,h1,h2,h3⟩=>⟨v,r,h1,iW hρ hT hw a v h2,bB hρ hT hw l r h3⟩
theorem yB(hT: ∀b,b<w.heap.size->T' b->T b)(hw:bG T w w'):
  ∀(l:List SV) (b o:Nat),¬T b->fJ T w l b o->fJ T' w' l b o
 | [],_,_,_,_=>trivial
 |a::l,b,o,hb,⟨⟨v,h1,h2⟩,h3⟩=>
  ⟨⟨v,by rw [JN (hw.same b (xS h1) hb)];exact h1,iW (ρ:=fun _=>none) (ρ':=fun _=>none) (fun _ _ h=>h) hT hw a v h2⟩,yB hT hw l b (o+1) hb h3⟩
end
end
structure Put (D:Nat) (w w':World):Prop where
 size:w'.heap.size=w.heap.size
 same: ∀b,b≠D->w'.heap[b]? =w.heap[b]?
 old: ∀vs e f,w.heap[D]? ≠some (.cells vs e f)
 os:w'.os=w.os
 output:w'.output=w.output
 tape:w'.tape=w.tape
theorem Put.cells{D:Nat}{w w':World}(h:Put D w w'){b:Nat}{vs:Array Value}{e:TypeId}{f:Nat×Nat}(hb:w.heap[b]? =some (.cells vs e f)):w'.heap[b]? =some (.cells vs e f):=by
 by_cases hD:b=D
 ·subst hD;exact absurd hb (h.old vs e f)
 ·rw [h.same b hD];exact hb
theorem Put.cell{D:Nat}{w w':World}(h:Put D w w'){b o:Nat}{v:Value}(hc:w.cell? ⟨b,o,none⟩=some v):w'.cell? ⟨b,o,none⟩=some v:=by
 by_cases hD:b=D
 ·exfalso
  subst hD
  unfold World.cell? at hc
  cases hh:w.heap[b]? with
  |none=>rw [hh] at hc;simp at hc
  |some ob=>
   rw [hh] at hc
   cases ob<;>simp at hc
   exact h.old _ _ _ hh
 ·rw [JN (h.same b hD)];exact hc
section
variable {T:Nat->Prop} {D:Nat} {w w':World}
mutual
theorem pK(h:Put D w w'){ρ:aL}: ∀(a:SV) (v:Value),rel ρ T w a v->rel ρ T w' a v
 | .junk,_,_=>trivial
 | .int _ _,_,h=>h
 | .bool _,_,h=>h
 | .str _,_,h=>h
 | .nilp,_,h=>h
 | .ptr _ _,_,h=>h
 | .eptr _ _ _ _,_,h=>h
 | .rptr cs,v,⟨b,off,h1,hb,h2,h3⟩=>⟨b,off,h1,by rw [h.size];exact hb,h2,AQ h cs b off h3⟩
 | .fn f x y,v,⟨a,c,h1,h2,h3⟩=>⟨a,c,h1,oI h x _ h2,oI h y _ h3⟩
 | .nilfn,_,h=>h
 | .agg cs,v,⟨a,h1,h2⟩=>⟨a,h1,oI h cs _ h2⟩
 | .tup cs,v,⟨a,h1,h2⟩=>⟨a,h1,oI h cs _ h2⟩
 | .nils,_,h=>h
 | .emp,_,h=>h
 | .arr _ _ _ _,v,h=>h
 | .own id off st len,v,⟨b,c,h1,h2,h3,h4,vs,e,f,h5,h6⟩=>⟨b,c,h1,h2,h3,h4,vs,e,f,h.cells h5,h6⟩
 | .ro len st g,v,⟨a,c,h1,h2,h3⟩=>⟨a,c,h1,h2,fun hl=>by
   obtain ⟨b,off,h4,hb,h5,h6⟩:=h3 hl
   exact ⟨b,off,h4,by rw [h.size];exact hb,h5,fun i hi=>AQ h (g i) b _ (h6 i hi)⟩⟩
 | .nilI,_,h=>h
 | .iface t x,v,⟨y,h1,h2⟩=>⟨y,h1,pK h x y h2⟩
 | .yld _,_,h=>h
theorem oI(h:Put D w w'){ρ:aL}: ∀(l:List SV) (m:List Value),aX ρ T w l m->aX ρ T w' l m
 | [],_,h=>h
 |a::l,_m,⟨v,r,h1,h2,h3⟩=>⟨v,r,h1,pK h a v h2,oI h l r h3⟩
theorem AQ(h:Put D w w'): ∀(l:List SV) (b o:Nat),fJ T w l b o->fJ T w' l b o
 | [],_,_,_=>trivial
 |a::l,b,o,⟨⟨v,h1,h2⟩,h3⟩=>⟨⟨v,h.cell h1,pK h a v h2⟩,AQ h l b (o+1) h3⟩
end
end
def aD8 :Pd->LoopState->Option Code->Prop
 | .ready,st,p=>st= .ready/\p=none
 | .busy,st,_=>st= .busy
 | .left .normal,_,_=>False
 | .left (.exit id),st,p=>st= .done/\p=some (.exit id)
 | .left .ret,st,p=>st= .done/\p=some .ret
def fV(ρ:aL)(T:Nat->Prop)(w:World):SB->Nat->Prop
 | .cells e cs,b=> ∃vs:Array Value,w.heap[b]? =some (.cells vs e (0,0))/\aX ρ T w cs vs.toList
 | .lst e cs,b=> ∃vs:Array Value,w.heap[b]? =some (.cells vs e (0,0))/\ ∃m r,vs.toList=m++r/\aX ρ T w cs m
 | .row e st len g,b=> ∃vs:Array Value,w.heap[b]? =some (.cells vs e (0,0))/\len*st<=vs.size/\
   ∀i,i<len->aX (fun _=>none) T w (g i) ((vs.toList.drop (i*st)).take st)
 | .loop tm nt ps as bd pend,b=> ∃r:Loop,w.heap[b]? =some (.loop r)/\aD8 pend r.state r.pending/\r.params.toList=ps/\r.assign=as/\r.body=bd/\r.tmps.size=nt/\ ∀t,rel ρ T w (get tm t) (r.tmps.getD t undef)
 | .iter s pos,b=> ∃q:Nat,w.heap[b]? =some (.stringIter s q)/\q=pos/\s.size<9223372036854775808
theorem aGi{ρ:aL}{T:Nat->Prop}{w:World}{sb:SB}{b:Nat}(h:fV ρ T w sb b):b<w.heap.size:=by
 cases sb<;>(obtain ⟨vs,hb,_⟩:=h;exact (bk.1 hb).1)
theorem rT {ρ ρ':aL} {T T':Nat->Prop} {w w':World} (hρ: ∀id b,ρ id=some b->ρ' id=some b) (hT: ∀b,b<w.heap.size->T' b->T b)
  (hw:bG T w w') {sb:SB} {b:Nat} (hb:w'.heap[b]? =w.heap[b]?) (h:fV ρ T w sb b):fV ρ' T' w' sb b:=by
 cases sb with
 |cells e cs=>obtain ⟨vs,h1,h2⟩:=h;exact ⟨vs,hb.trans h1,bB hρ hT hw _ _ h2⟩
 |lst e cs=>obtain ⟨vs,h1,m,r,h2,h3⟩:=h;exact ⟨vs,hb.trans h1,m,r,h2,bB hρ hT hw _ _ h3⟩
 |row e st len g=>obtain ⟨vs,h1,h2,h3⟩:=h;exact ⟨vs,hb.trans h1,h2,fun i hi=>bB (fun _ _ h=>h) hT hw _ _ (h3 i hi)⟩
 |loop tm nt ps as bd pend=>obtain ⟨r,h1,h2,h3,h4,h5,h6,h7⟩:=h;exact ⟨r,hb.trans h1,h2,h3,h4,h5,h6,fun t=>iW hρ hT hw _ _ (h7 t)⟩
 |iter s pos=>obtain ⟨q,h1,h2⟩:=h;exact ⟨q,hb.trans h1,h2⟩
theorem EY{ρ:aL}{T:Nat->Prop}{D:Nat}{w w':World}(h:Put D w w'){sb:SB}{b:Nat}(hbD:b≠D)(hb:fV ρ T w sb b):fV ρ T w' sb b:=by
 cases sb with
 |cells e cs=>obtain ⟨vs,h1,h2⟩:=hb;exact ⟨vs,h.cells h1,oI h _ _ h2⟩
 |lst e cs=>obtain ⟨vs,h1,m,r,h2,h3⟩:=hb;exact ⟨vs,h.cells h1,m,r,h2,oI h _ _ h3⟩
 |row e st len g=>obtain ⟨vs,h1,h2,h3⟩:=hb;exact ⟨vs,h.cells h1,h2,fun i hi=>oI h _ _ (h3 i hi)⟩
 |loop tm nt ps as bd pend=>obtain ⟨r,h1,h2,h3,h4,h5,h6,h7⟩:=hb;exact ⟨r,(h.same b hbD).trans h1,h2,h3,h4,h5,h6,fun t=>pK h _ _ (h7 t)⟩
 |iter s pos=>obtain ⟨q,h1,h2⟩:=hb;exact ⟨q,(h.same b hbD).trans h1,h2⟩
mutual
theorem EG{T:Nat->Prop}{w:World}{ρ ρ2:aL}: ∀(a:SV) (v:Value),ids a=[]->rel ρ T w a v->rel ρ2 T w a v
 | .junk,_,_,_=>trivial
 | .int _ _,_,_,h=>h
 | .bool _,_,_,h=>h
 | .str _,_,_,h=>h
 | .nilp,_,_,h=>h
 | .ptr _ _,_,h,_=>by cases h
 | .eptr _ _ _ _,_,h,_=>by cases h
 | .rptr _,_,_,h=>h
 | .fn g x y,v,h,⟨a,c,h1,h2,h3⟩=>by
  simp only [ids,List.append_eq_nil_iff] at h
  exact ⟨a,c,h1,gO x _ h.1 h2,gO y _ h.2 h3⟩
 | .nilfn,_,_,h=>h
 | .agg cs,v,h,⟨a,h1,h2⟩=>⟨a,h1,gO cs _ h h2⟩
 | .tup cs,v,h,⟨a,h1,h2⟩=>⟨a,h1,gO cs _ h h2⟩
 | .nils,_,_,h=>h
 | .emp,_,_,h=>h
 | .arr _ _ _ _,_,h,_=>by cases h
 | .own _ _ _ _,_,h,_=>by cases h
 | .ro _ _ _,_,_,h=>h
 | .nilI,_,_,h=>h
 | .iface t x,v,h,⟨y,h1,h2⟩=>⟨y,h1,EG x y h h2⟩
 | .yld _,_,h,_=>by cases h
theorem gO{T:Nat->Prop}{w:World}{ρ ρ2:aL}: ∀(l:List SV) (m:List Value),ids.idsL l=[]->aX ρ T w l m->aX ρ2 T w l m
 | [],_,_,h=>h
 |a::l,m,h,⟨v,r,h1,h2,h3⟩=>by
  simp only [ids.idsL,List.append_eq_nil_iff] at h
  exact ⟨v,r,h1,EG a v h.1 h2,gO l r h.2 h3⟩
end
end Go.Se
namespace Go.Se
variable {P:Program} {w:World}
structure gJ (P:Program) (t:TypeId) (ti:TI):Prop where
 info: ∃i,P.info? t=some i/\i.size=ti.size/\i.bytes=ti.bytes/\ ∃z,i.zero=some z/\zeroCells z.cells.toList=some ti.zero
 desc: ∃d,P.underlying t=some d/\lM d=some ti.kind
 held: ∀fs,ti.kind= .struct fs->P.stoodInHeld t=false/\ ∀f∈fs,(P.info? f.2).isSome=true
theorem gJ.of{t:TypeId}{ti:TI}(h:aKO P t=some ti):gJ P t ti:=by
 unfold aKO at h
 split at h
 ·rename_i i d hi hd
  split at h
  ·rename_i z k hz hk
   split at h
   ·rename_i cs hc
    cases hkin:UV P t k with
    |false=>rw [hkin] at h;cases h
    |true=>
     rw [hkin] at h
     cases h
     refine ⟨⟨i,hi,rfl,rfl,z,hz,hc⟩,⟨d,hd,hk⟩,fun fs hf=> ?_⟩
     simp only at hf
     subst hf
     simp only [UV,af,dg,gb] at hkin
     exact hkin
   ·cases h
  ·cases h
 ·cases h
theorem gJ.sizeOf{t:TypeId}{ti:TI}(h:gJ P t ti):(sizeOf t).run P w= .ok ti.size w:=by
 obtain ⟨⟨i,hi,h1,_⟩,_,_⟩:=h
 simp [Go.sizeOf,Go.typeInfo,hi,h1]
theorem gJ.underlying{t:TypeId}{ti:TI}(h:gJ P t ti): ∃d,(underlying t).run P w= .ok d w/\P.underlying t=some d/\lM d=some ti.kind:=by
 obtain ⟨_,⟨d,hd,hk⟩,_⟩:=h
 exact ⟨d,by simp [Go.underlying,hd],hd,hk⟩
theorem gJ.isAgg{t:TypeId}{ti:TI}(h:gJ P t ti):(Go.isAgg t).run P w= .ok (isAgg ti.kind) w:=by
 obtain ⟨d,hd,_,hk⟩:=h.underlying (w:=w)
 unfold Go.isAgg
 rw [Sem.run_bind,hd]
 cases d<;>simp only [lM,an,reduceCtorEq] at hk
 case struct fs _=>
  cases hb:fs.toList.all (fun f=>f.name != "_") with
  |true=>rw [hb] at hk;simp only [ar,an] at hk;rw [<- hk];rfl
  |false=>rw [hb] at hk;simp at hk
 all_goals (rw [<- hk];rfl)
theorem gJ.zero{t:TypeId}{ti:TI}(h:gJ P t ti): ∃z,(zeroValue t).run P w= .ok z w/\zeroCells z.cells.toList=some ti.zero:=by
 obtain ⟨⟨i,hi,_,_,z,hz,hc⟩,_,_⟩:=h
 exact ⟨z,by simp [zeroValue,Go.typeInfo,hi,hz],hc⟩
theorem oO(k:IntKind):k.min<=0/\0<=k.max:=by cases k<;>decide
theorem cZ(ρ:aL)(T:Nat->Prop)(w:World): ∀(l:List Value) (cs:List SV),zeroCells l=some cs->aX ρ T w cs l
 | [],cs,h=>by simp [zeroCells] at h;subst h;rfl
 |v::l,cs,h=>by
  unfold zeroCells at h
  split at h
  ·rename_i k n r hr
   by_cases hn:n=0
   ·subst hn;simp at h;subst h
    exact ⟨_,_,rfl,⟨rfl,oO k⟩,cZ ρ T w l _ hr⟩
   ·simp [hn] at h
  ·rename_i b r hr;cases h;exact ⟨_,_,rfl,rfl,cZ ρ T w l _ hr⟩
  ·rename_i x r hr
   by_cases hn:x.size=0
   ·rw [show Nat.beq x.size 0=true from by rw [hn];rfl] at h
    cases h;exact ⟨_,_,rfl,⟨rfl,by omega⟩,cZ ρ T w l _ hr⟩
   ·rw [show Nat.beq x.size 0=false from by rw [cf];intro e;exact hn (ai e)] at h
    cases h
  all_goals first
   |(rename_i r hr;cases h;exact ⟨_,_,rfl,rfl,cZ ρ T w l _ hr⟩)
   |cases h
def bJ(w:World)(b:Nat)(vs:Array Value)(e:TypeId):World:={w with heap:=w.heap.setIfInBounds b (.cells vs e (0,0))}
theorem nV(w:World)(b:Nat)(vs:Array Value)(e:TypeId):(bJ w b vs e).heap.size=w.heap.size:=by simp [bJ]
theorem dY{b:Nat}{vs:Array Value}{e:TypeId}(h:b<w.heap.size):(bJ w b vs e).heap[b]? =some (.cells vs e (0,0)):=by
 simp [bJ,h]
theorem uW{b c:Nat}{vs:Array Value}{e:TypeId}(h:c≠b):(bJ w b vs e).heap[c]? =w.heap[c]? :=by
 simp [bJ,ib (Ne.symm h)]
theorem dL(b o i:Nat):(Addr.mk b o none).add i=⟨b,o+i,none⟩:=by
 unfold Addr.add;split
 ·subst_vars;rfl
 ·rfl
theorem fF{b:Nat}{vs:Array Value}{e:TypeId}{f:Nat×Nat}(h:w.heap[b]? =some (.cells vs e f))(o:Nat):
  w.cell? ⟨b,o,none⟩=vs[o]? :=by
 unfold World.cell?;simp [h]
theorem zL{b o:Nat}{vs:Array Value}{e:TypeId}{f:Nat×Nat}(h:w.heap[b]? =some (.cells vs e f)):
  ∀(n i:Nat) (acc:Array Value),o+i+n<=vs.size->
  (loadCellsFrom ⟨b,o,none⟩ i n acc).run P w= .ok (acc++((vs.toList.drop (o+i)).take n).toArray) w:=by
 intro n
 induction n with
 |zero=>intro i acc _;simp [loadCellsFrom]
 |succ n ih=>
  intro i acc hn
  have hlt:o+i<vs.size:=by omega
  unfold loadCellsFrom
  rw [Sem.run_bind,dL]
  simp only [run_load,fF h,cl hlt]
  simp only [Result.andThen_ok]
  rw [ih (i+1) _ (by omega)]
  congr 1
  apply fw
  simp only [fd,Array.toList_push]
  rw [show o+(i+1)=o+i+1 by omega,bo]
  congr 1
  rw [dz (l:=vs.toList) (i:=o+i) (by simpa using hlt),List.take_succ_cons]
  simp
theorem rN{b o n:Nat}{vs:Array Value}{e:TypeId}{f:Nat×Nat}(h:w.heap[b]? =some (.cells vs e f))(hn:o+n<=vs.size):
  (loadCells ⟨b,o,none⟩ n).run P w= .ok ((vs.toList.drop o).take n).toArray w:=by
 unfold loadCells
 rw [zL h n 0 #[] (by omega)]
 simp
def bI(l:List Value)(o:Nat)(m:List Value):List Value:=l.take o++m++l.drop (o+m.length)
theorem KS(w:World)(b:Nat)(vs vs':Array Value)(e e':TypeId):bJ (bJ w b vs e) b vs' e'=bJ w b vs' e':=by
 unfold bJ;simp
theorem B0{b o:Nat}{vs:Array Value}{e:TypeId}(h:w.heap[b]? =some (.cells vs e (0,0)))(v:Value):
  w.setCell ⟨b,o,none⟩ v=bJ w b (vs.setIfInBounds o v) e:=by
 unfold World.setCell bJ
 congr 1
 obtain ⟨hb,h'⟩:=bk.1 h
 apply Array.ext (by simp)
 intro i h1 h2
 by_cases hi:b=i
 ·subst hi
  rw [Array.getElem_modify_self,Array.getElem_setIfInBounds_self,h']
  simp
 ·rw [Array.getElem_modify_of_ne hi,Array.getElem_setIfInBounds_ne _ hi]
theorem G1{b:Nat}{vs:Array Value}{e:TypeId}(h:w.heap[b]? =some (.cells vs e (0,0))):bJ w b vs e=w:=by
 unfold bJ
 obtain ⟨hb,h'⟩:=bk.1 h
 have:w.heap.setIfInBounds b (.cells vs e (0,0))=w.heap:=by
  apply Array.ext (by simp)
  intro i h1 h2
  by_cases hi:b=i
  ·subst hi;rw [Array.getElem_setIfInBounds_self,h']
  ·rw [Array.getElem_setIfInBounds_ne _ hi]
 rw [this]
theorem I2{b o:Nat}{vs:Array Value}{e:TypeId}(h:w.heap[b]? =some (.cells vs e (0,0))):w.frozen? ⟨b,o,none⟩=false:=by
 unfold World.frozen?;simp [h]
theorem gT{b o:Nat}{e:TypeId}: ∀(l:List Value) (i:Nat) (vs:Array Value) (w:World),w.heap[b]? =some (.cells vs e (0,0))->
  o+i+l.length<=vs.size->(∀v∈l,v.oneCell'=true)->
  (storeCells ⟨b,o,none⟩ l i).run P w= .ok () (bJ w b (bI vs.toList (o+i) l).toArray e):=by
 intro l
 induction l with
 |nil=>
  intro i vs w h _ _
  simp only [storeCells,bI,bw,Nat.add_zero,cm,List.take_append_drop,Array.toArray_toList]
  rw [G1 h];rfl
 |cons v l ih=>
  intro i vs w h hn hv
  simp only [az] at hn
  have hlt:o+i<vs.size:=by omega
  unfold storeCells
  rw [Sem.run_bind,dL,run_store P w _ v _ (hv v (by simp))]
  simp only [fF h,cl hlt,I2 h]
  simp only [bz,ea,Result.andThen_ok]
  rw [B0 h]
  have hb:b<w.heap.size:=(bk.1 h).1
  rw [ih (i+1) (vs.setIfInBounds (o+i) v) _ (dY hb) (by simp;omega) (fun x hx=>hv x (by simp [hx])),KS]
  congr 2
  apply fw
  simp only [bI,Array.toList_setIfInBounds,az]
  have hl:o+i<vs.toList.length:=by simpa using hlt
  rw [show o+(i+1)=o+i+1 by omega,show o+i+1+l.length=o+i+(l.length+1) by omega]
  rw [List.take_set,List.drop_set_of_lt (by omega)]
  rw [List.take_succ_eq_append_getElem hl,List.set_append]
  have hm:min (o+i) vs.size=o+i:=by omega
  simp [hm]
end Go.Se
namespace Go.Se
variable {P:Program}
structure gX (ρ:aL) (T:Nat->Prop) (w:World) (nxt nxt':Nat) (v:SV) (u:eD) (wr:List Nat) (ρ':aL) (T':Nat->Prop) (w':World) (x:Value):Prop where
 names: ∀id b,ρ id=some b->ρ' id=some b
 only: ∀id b,ρ' id=some b->ρ id=some b\/(nxt<=id/\id<nxt')
 val:rel ρ' T' w' v x
 turned: ∀id sb,(id,some sb)∈u-> ∃b,ρ' id=some b/\T' b/\fV ρ' T' w' sb b
 keys: ∀id o,(id,o)∈u->id∈wr\/(nxt<=id/\id<nxt')
 cover: ∀id,id∈wr-> ∃o,(id,o)∈u
 fresh: ∀id b,nxt<=id->id<nxt'->ρ' id=some b->w.heap.size<=b\/ ∃j,j∈wr/\(j,none)∈u/\ρ j=some b
 inj: ∀i j b,nxt<=i->i<nxt'->nxt<=j->j<nxt'->ρ' i=some b->ρ' j=some b->i=j
 grow:bG (fun b=> ∃id,id∈wr/\ρ id=some b) w w'
 tback: ∀b,b<w.heap.size->T' b->T b
 below: ∀id b,nxt<=id->id<nxt'->ρ' id=some b->b<w'.heap.size
 tkeep: ∀b,b<w.heap.size->T b->T' b\/ ∃j,j∈wr/\(j,none)∈u/\ρ j=some b
theorem gX.pure{ρ:aL}{T:Nat->Prop}{w:World}{n:Nat}{v:SV}{x:Value}(h:rel ρ T w v x):gX ρ T w n n v [] [] ρ T w x where
 names _ _ h:=h
 only _ _ h:= .inl h
 val:=h
 turned _ _ h:=by cases h
 keys _ _ h:=by cases h
 cover _ h:=by cases h
 fresh _ _ h1 h2 _:=by omega
 inj _ _ _ h1 h2 _ _ _ _:=by omega
 grow:=bG.refl _ _
 tback _ _ h:=h
 below _ _ h1 h2 _:=by omega
 tkeep _ _ h:= .inl h
structure Low (P:Program) (ρ:aL) (T:Nat->Prop) (w:World):Prop where
 low: ∀id b,ρ id=some b->b<w.heap.size
 inv:Inv P T w
instance (P:Program) (ρ:aL) (T:Nat->Prop) (w:World):CoeFun (Low P ρ T w) (fun _=> ∀id b,ρ id=some b->b<w.heap.size):=⟨Low.low⟩
def Wd(F:Fence):Prop:= ∃ro,F={Fence.wide with round:=ro}
theorem Wd.fn{F:Fence}(h:Wd F)(f:FuncId):F.fn f:=by obtain ⟨ro,rfl⟩:=h;exact trivial
theorem Wd.depth{F:Fence}(h:Wd F):F.depth=none:=by obtain ⟨ro,rfl⟩:=h;rfl
theorem Wd.in{F:Fence}(h:Wd F)(l:Nat):Wd (F.inRound l):=by obtain ⟨ro,rfl⟩:=h;exact ⟨some l,rfl⟩
theorem Wd.calls{F:Fence}(h:Wd F){n:Nat}{f:FuncId}{args:Array Value}{w:World}{R:Ending->World->Prop}(hc:Calls P f args w R):CallsIn F n P f args w R:=by
 obtain ⟨ro,rfl⟩:=h
 have h1:=(callsIn_wide (n:=n)).2 hc
 cases ro with
 |none=>exact h1
 |some l=>exact CallsIn.inRound l h1
def wpW(P:Program)(o:Oper)(a:Act)(w:World)(next:Act->World->Prop)(Q:Exit->Act->World->Prop):Prop:=
 ∀(F:Fence) (n:Nat),Wd F->o.wpIn F n P a w next Q
theorem K7 {o:Oper} {a:Act} {w:World} {next:Act->World->Prop} {Q:Exit->Act->World->Prop} (ho: ∀c,o.op≠ .defer c)
  (h: ∀(F:Fence) (n:Nat),Wd F->o.uponIn F n P a next Q ((execOp a.eval o).run P w)):wpW P o a w next Q:=fun F n hF=>
 ⟨fun f _=>hF.fn f,by rw [Oper.semAt_eq _ _ _ ho];exact h F n hF⟩
def gY(P:Program)(st:St)(o:Oper)(v:SV)(u:eD)(n:Nat)(rd wr:List Nat):Prop:=
 ∀(ρ:aL) (T:Nat->Prop) (a:Act) (w:World) (next:Act->World->Prop) (Q:Exit->Act->World->Prop),
  (∀x,x∈o.op.operands->rel ρ T w (eval st.tmps x) (a.eval x))->
  (∀id,id∈rd\/id∈wr-> ∃sb b,aO st.store id=some sb/\ρ id=some b/\T b/\fV ρ T w sb b)->
  (∀i j b,i∈rd\/i∈wr->j∈rd\/j∈wr->ρ i=some b->ρ j=some b->i=j)->
  Low P ρ T w->
  (∀id,st.nxt<=id->id<n->ρ id=none)->
  (∀x w' ρ' T',gX ρ T w st.nxt n v u wr ρ' T' w' x->next (a.put o.dst x) w')->
  wpW P o a w next Q
theorem AC{o:Oper}{a:Act}{w w':World}{c:Call}{x:Next}(hx: ∀d,x≠ .defer d)(h:(execOp a.eval o).run P w= .ok x w'):o.op≠ .defer c:=fun e=>by
 simp only [execOp,e,Sem.run_bind] at h
 cases hr:(resolve a.eval c o.type).run P w with
 |ok d w2=>
  rw [hr] at h
  simp only [Result.andThen_ok,Sem.run_pure] at h
  cases h
  exact hx d rfl
 |halt _ _=>rw [hr] at h;cases h
theorem bR {o:Oper} {a:Act} {w w':World} {x:Value} {next:Act->World->Prop} {Q:Exit->Act->World->Prop}
  (h:(execOp a.eval o).run P w= .ok (.value x) w') (hn:next (a.put o.dst x) w'):wpW P o a w next Q:=
 K7 (fun _=>AC (fun _ h=>by cases h) h) fun F n _=>by rw [h];exact hn
theorem xR {o:Oper} {a:Act} {w w':World} {next:Act->World->Prop} {Q:Exit->Act->World->Prop}
  (h:(execOp a.eval o).run P w= .ok .skip w') (hn:next (a.put o.dst undef) w'):wpW P o a w next Q:=
 K7 (fun _=>AC (fun _ h=>by cases h) h) fun F n _=>by rw [h];exact hn
theorem gY.pure {st:St} {o:Oper} {v:SV}
  (h: ∀(ρ:aL) (T:Nat->Prop) (a:Act) (w:World),(∀x,x∈o.op.operands->rel ρ T w (eval st.tmps x) (a.eval x))->
   ∃x,(execOp a.eval o).run P w= .ok (.value x) w/\rel ρ T w v x):gY P st o v [] st.nxt [] []:=by
 intro ρ T a w next Q hx _ _ _ _ hn
 obtain ⟨x,hr,hv⟩:=h ρ T a w hx
 exact bR hr (hn x w ρ T (gX.pure hv))
def jF(st:St)(u:eD):Prop:=
 (∀id sb,aO st.store id=some sb->id<st.nxt)-> ∀id x y,(id,x)∈u->(id,y)∈u->x=y
theorem jF.nil{st:St}:jF st []:=fun _ _ _ _ h=>by cases h
theorem jF.one{st:St}{p:Nat×Option SB}:jF st [p]:=fun _ id x y hx hy=>by
 simp only [aq] at hx hy
 have:=hx.trans hy.symm
 simpa using this
def cD(P:Program)(st:St)(o:Oper)(K:KV):Prop:=
 ∃v u n rd wr,K v u n rd wr/\st.nxt<=n/\(∀id,id∈rd\/id∈wr-> ∃sb,aO st.store id=some sb)/\jF st u/\
  (∀id o,(id,o)∈u->id∈wr\/(st.nxt<=id/\id<n))/\gY P st o v u n rd wr
theorem cD.pure{st:St}{o:Oper}{K:KV}{v:SV}(hK:K v [] st.nxt [] [])(h:gY P st o v [] st.nxt [] []):cD P st o K:=
 ⟨v,[],st.nxt,[],[],hK,av _,by simp,jF.nil,by simp,h⟩
theorem nR(k:IntKind)(n:Int):k.min<=k.wrap n/\k.wrap n<=k.max:=by
 cases k
 case i8=>show (-128:Int)<=_/\_<=(127:Int);unfold IntKind.wrap;simp only [IntKind.signed,IntKind.bits,ch,Nat.reduceSub,Int.reducePow];by_cases hd:n%256>=128<;>simp only [hd,decide_true,decide_false,if_true,ea,bz]<;>omega
 case i16=>show (-32768:Int)<=_/\_<=(32767:Int);unfold IntKind.wrap;simp only [IntKind.signed,IntKind.bits,ch,Nat.reduceSub,Int.reducePow];by_cases hd:n%65536>=32768<;>simp only [hd,decide_true,decide_false,if_true,ea,bz]<;>omega
 case i32=>show (-2147483648:Int)<=_/\_<=(2147483647:Int);unfold IntKind.wrap;simp only [IntKind.signed,IntKind.bits,ch,Nat.reduceSub,Int.reducePow];by_cases hd:n%4294967296>=2147483648<;>simp only [hd,decide_true,decide_false,if_true,ea,bz]<;>omega
 case i64=>show (-9223372036854775808:Int)<=_/\_<=(9223372036854775807:Int);unfold IntKind.wrap;simp only [IntKind.signed,IntKind.bits,ch,Nat.reduceSub,Int.reducePow];by_cases hd:n%18446744073709551616>=9223372036854775808<;>simp only [hd,decide_true,decide_false,if_true,ea,bz]<;>omega
 case u8=>show (0:Int)<=_/\_<=(255:Int);unfold IntKind.wrap;simp only [IntKind.signed,IntKind.bits,Bool.false_and,bz,ea,Int.reducePow];omega
 case u16=>show (0:Int)<=_/\_<=(65535:Int);unfold IntKind.wrap;simp only [IntKind.signed,IntKind.bits,Bool.false_and,bz,ea,Int.reducePow];omega
 case u32=>show (0:Int)<=_/\_<=(4294967295:Int);unfold IntKind.wrap;simp only [IntKind.signed,IntKind.bits,Bool.false_and,bz,ea,Int.reducePow];omega
 case u64=>show (0:Int)<=_/\_<=(18446744073709551615:Int);unfold IntKind.wrap;simp only [IntKind.signed,IntKind.bits,Bool.false_and,bz,ea,Int.reducePow];omega
theorem aCm(ρ:aL)(T:Nat->Prop)(w:World)(v:Value):rel ρ T w (aDO v) v:=by
 unfold aDO
 split
 ·rename_i k n
  cases h:decide (k.min<=n)&&decide (n<=k.max) with
  |true=>simp only [af,ak] at h;exact ⟨rfl,h⟩
  |false=>trivial
 ·rfl
 ·rename_i s
  cases h:Nat.blt s.size 9223372036854775808 with
  |true=>exact ⟨rfl,by simpa using h⟩
  |false=>trivial
 all_goals first|rfl|trivial
theorem P4{ρ:aL}{T:Nat->Prop}{w:World}{l:mQ}{a:Act}{x:Operand}(h: ∀t,x= .tmp t->rel ρ T w (get l t) (a.tmps.getD t undef)):
  rel ρ T w (eval l x) (a.eval x):=by
 cases x with
 |tmp t=>exact h t rfl
 |const v=>exact aCm ρ T w v
 |global g=>trivial
 |func f=>exact ⟨#[],#[],rfl,rfl,rfl⟩
end Go.Se
namespace Go.Se
variable {P:Program}
theorem Br.elim{c:Bool}{A B:Prop}(h:Br c A B):(c=true/\A)\/(c=false/\B):=by
 cases c
 ·exact .inr ⟨rfl,h⟩
 ·exact .inl ⟨rfl,h⟩
theorem If.elim{c:Bool}{A:Prop}(h:If c A):c=true/\A:=by
 cases c
 ·exact h.elim
 ·exact ⟨rfl,h⟩
theorem aG7(k:IntKind){a b:Int}(ha:k.min<=a/\a<=k.max):k.min<=a.tmod b/\a.tmod b<=k.max:=by
 have hz:=oO k
 rcases Int.le_total 0 a with h|h
 ·have h1:=Int.tmod_nonneg b h
  have h2:a.tmod b<=a:=by
   by_cases hb:b=0
   ·subst hb;simp
   ·have h3:(a.tmod b).natAbs<=a.natAbs:=by
     rw [Int.natAbs_tmod];exact Nat.mod_le _ _
    omega
  omega
 ·have h1:a.tmod b<=0:=by
   have:=Int.tmod_nonneg b (a:= -a) (by omega)
   rw [Int.neg_tmod] at this;omega
  have h2:a<=a.tmod b:=by
   have h3:(a.tmod b).natAbs<=a.natAbs:=by
    rw [Int.natAbs_tmod];exact Nat.mod_le _ _
   omega
  omega
theorem aGn(k:IntKind){a:Int}(n:Nat)(ha:k.min<=a/\a<=k.max):k.min<=a.fdiv (2^n)/\a.fdiv (2^n)<=k.max:=by
 have hz:=oO k
 have hp:(0:Int)<2^n:=ic (by decide)
 rw [Int.fdiv_eq_ediv_of_nonneg _ (ed hp)]
 have h1:(1:Int)<=2^n:=hp
 rcases Int.le_total 0 a with h|h
 ·have h2:=dx h (ed hp)
  have h3:=Int.ediv_le_self (2^n) h
  omega
 ·have h2:a/2^n<=0:=by
   have:=Int.ediv_le_ediv hp h
   simpa using this
  have h3:a<=a/2^n:=by
   rw [Int.le_ediv_iff_mul_le hp]
   have h4:=Int.mul_le_mul_of_nonpos_left (a:=a) h h1
   omega
  omega
theorem ZC{op:BinOp}{k:IntKind}{a b:Int}{K:SV->Prop}(ha:k.min<=a/\a<=k.max)(h:AO op k a b K)(t:TypeId):
  ∃v,K v/\ ∀(ρ:aL) (T:Nat->Prop) (w:World) (yk:IntKind),((op= .shl\/op= .shr)\/k=yk)->
   ∃x,(Go.binOp op t (.int k a) (.int yk b)).run P w= .ok x w/\rel ρ T w v x:=by
 cases op
 case quo=>
  obtain ⟨hb,h⟩:=If.elim h
  refine ⟨_,h,fun ρ T w yk hk=> ?_⟩
  obtain rfl:k=yk:=by simpa using hk
  have hb':b≠0:=by simpa using hb
  refine ⟨_,by simp [Go.binOp,Op.intDiv,hb'],rfl,nR _ _⟩
 case rem=>
  obtain ⟨hb,h⟩:=If.elim h
  refine ⟨_,h,fun ρ T w yk hk=> ?_⟩
  obtain rfl:k=yk:=by simpa using hk
  have hb':b≠0:=by simpa using hb
  refine ⟨_,by simp [Go.binOp,Op.intDiv,hb'],rfl,aG7 k ha⟩
 case shl=>
  obtain ⟨hb,h⟩:=If.elim h
  refine ⟨_,h,fun ρ T w yk hk=> ?_⟩
  have hb': ¬b<0:=by simpa using hb
  refine ⟨_,by simp [Go.binOp,Op.shift,hb'],rfl,nR _ _⟩
 case shr=>
  obtain ⟨hb,h⟩:=If.elim h
  refine ⟨_,h,fun ρ T w yk hk=> ?_⟩
  have hb': ¬b<0:=by simpa using hb
  refine ⟨_,by simp [Go.binOp,Op.shift,hb'],rfl,aGn k _ ha⟩
 case and=>
  refine ⟨_,h,fun ρ T w yk hk=> ?_⟩
  obtain rfl:k=yk:=by simpa using hk
  exact ⟨_,by rw [show Go.binOp .and t (.int k a) (.int k b)=Op.intBits .and k a b from by simp [Go.binOp]];rfl,rfl,nR _ _⟩
 case or=>
  refine ⟨_,h,fun ρ T w yk hk=> ?_⟩
  obtain rfl:k=yk:=by simpa using hk
  exact ⟨_,by rw [show Go.binOp .or t (.int k a) (.int k b)=Op.intBits .or k a b from by simp [Go.binOp]];rfl,rfl,nR _ _⟩
 case xor=>
  refine ⟨_,h,fun ρ T w yk hk=> ?_⟩
  obtain rfl:k=yk:=by simpa using hk
  exact ⟨_,by rw [show Go.binOp .xor t (.int k a) (.int k b)=Op.intBits .xor k a b from by simp [Go.binOp]];rfl,rfl,nR _ _⟩
 case andNot=>
  refine ⟨_,h,fun ρ T w yk hk=> ?_⟩
  obtain rfl:k=yk:=by simpa using hk
  exact ⟨_,by rw [show Go.binOp .andNot t (.int k a) (.int k b)=Op.intBits .andNot k a b from by simp [Go.binOp]];rfl,rfl,nR _ _⟩
 all_goals
  refine ⟨_,h,fun ρ T w yk hk=> ?_⟩
  obtain rfl:k=yk:=by simpa using hk
  first
   |refine ⟨_,by simp [Go.binOp,Op.intArith],rfl,nR _ _⟩
   |refine ⟨_,by simp [Go.binOp,Op.intCmp],rfl⟩
end Go.Se
namespace Go.Se
variable {P:Program}
theorem bV{ρ:aL}{T:Nat->Prop}{w:World}: ∀{l:List SV} {m:List Value},aX ρ T w l m->l.length=m.length
 | [],m,h=>by rw [h];rfl
 |a::l,m,⟨v,r,h1,_,h3⟩=>by rw [h1];simp [bV h3]
theorem IG{ρ:aL}{T:Nat->Prop}{w:World}: ∀(n:Nat) {l:List SV} {m:List Value},aX ρ T w l m->aX ρ T w (l.take n) (m.take n)
 |0,_,_,_=>by simp [aX]
 |n+1,[],m,h=>by rw [h];simp [aX]
 |n+1,a::l,m,⟨v,r,h1,h2,h3⟩=>by rw [h1];exact ⟨v,_,rfl,h2,IG n h3⟩
theorem J5{ρ:aL}{T:Nat->Prop}{w:World}: ∀(n:Nat) {l:List SV} {m:List Value},aX ρ T w l m->aX ρ T w (l.drop n) (m.drop n)
 |0,_,_,h=>h
 |n+1,[],m,h=>by rw [h];simp [aX]
 |n+1,a::l,m,⟨v,r,h1,h2,h3⟩=>by rw [h1];exact J5 n h3
theorem jI{ρ:aL}{T:Nat->Prop}{w:World}(o n:Nat){l:List SV}{m:List Value}(h:aX ρ T w l m):
  aX ρ T w (cut l o n) ((m.drop o).take n):=IG n (J5 o h)
theorem gN{ρ:aL}{T:Nat->Prop}{w:World}: ∀{l l':List SV} {m m':List Value},aX ρ T w l m->aX ρ T w l' m'->aX ρ T w (l++l') (m++m')
 | [],_,m,_,h,h'=>by rw [h];exact h'
 |a::l,_,m,_,⟨v,r,h1,h2,h3⟩,h'=>by rw [h1];exact ⟨v,_,rfl,h2,gN h3 h'⟩
def BH(ti:TI)(ρ:aL)(T:Nat->Prop)(w:World)(cs:List SV)(x:Value):Prop:=
 (isAgg ti.kind=true/\ ∃a,x= .agg a/\aX ρ T w cs a.toList)\/(isAgg ti.kind=false/\ ∃v,cs=[v]/\rel ρ T w v x)
theorem wS {t:TypeId} {ti:TI} (ht:gJ P t ti) {ρ:aL} {T:Nat->Prop} {w:World} {cs:List SV} {a:Array Value} (h:aX ρ T w cs a.toList) (off:Nat)
  (h1:isAgg ti.kind=true\/ ∃v,cut cs off ti.size=[v]):
  ∃x,(part t a off).run P w= .ok x w/\BH ti ρ T w (cut cs off ti.size) x:=by
 unfold part
 rw [Sem.run_bind,ht.isAgg]
 cases hk:isAgg ti.kind with
 |true=>
  simp only [Result.andThen_ok,if_true,Sem.run_bind,ht.sizeOf,Sem.run_pure]
  refine ⟨_,rfl,.inl ⟨hk,_,rfl, ?_⟩⟩
  have:=jI off ti.size h
  rw [Array.toList_extract,List.extract_eq_take_drop,fo]
  exact this
 |false=>
  obtain h1|⟨v,hv⟩:=h1
  ·rw [hk] at h1;cases h1
  ·have hr:=jI off ti.size h
   rw [hv] at hr
   obtain ⟨x,r,h2,h3,h4⟩:=hr
   have hx:a[off]? =some x:=by
    have h5:((a.toList.drop off).take ti.size)[0]? =some x:=by rw [h2];rfl
    rw [br] at h5
    split at h5
    ·rw [bu] at h5
     simpa using h5
    ·cases h5
   simp only [Result.andThen_ok,bz,ea,hx]
   exact ⟨x,rfl,.inr ⟨hk,v,hv,h3⟩⟩
theorem DQ{tt:TypeId->Option TI}{d:Nat}{t:TypeId}{ti:TI}{xs ys:List SV}{b:Bool}(ht:tt t=some ti)(h:KW tt d t xs ys=some b):
  isAgg ti.kind=true\/((∃v,xs=[v])/\ ∃v,ys=[v]):=by
 cases d with
 |zero=>cases h
 |succ d=>
  simp only [KW,ht] at h
  cases hk:ti.kind<;>simp only [hk] at h<;>first
   |(cases h;done)
   |(left;rfl)
   |(right;split at h<;>first|exact ⟨⟨_,rfl⟩,⟨_,rfl⟩⟩|cases h)
theorem wZ{t:TypeId}{ti:TI}(ht:gJ P t ti)(hk:ti.kind= .bool):P.underlying t=some .bool:=by
 obtain ⟨_,⟨d,hd,h⟩,_⟩:=ht
 rw [hk] at h
 cases d<;>simp only [lM,an,reduceCtorEq] at h
 ·exact hd
 ·rename_i fs
  cases hb:fs.toList.all (fun f=>f.name != "_")<;>rw [hb] at h<;>simp at h
theorem sO{t:TypeId}{ti:TI}{k:IntKind}(ht:gJ P t ti)(hk:ti.kind= .int k):P.underlying t=some (.int k):=by
 obtain ⟨_,⟨d,hd,h⟩,_⟩:=ht
 rw [hk] at h
 cases d<;>simp only [lM,an,reduceCtorEq] at h
 ·injection h with h;rw [<- h];exact hd
 ·rename_i fs
  cases hb:fs.toList.all (fun f=>f.name != "_")<;>rw [hb] at h<;>simp at h
theorem gL{t:TypeId}{ti:TI}(ht:gJ P t ti)(hk:ti.kind= .string):P.underlying t=some .string:=by
 obtain ⟨_,⟨d,hd,h⟩,_⟩:=ht
 rw [hk] at h
 cases d<;>simp only [lM,an,reduceCtorEq] at h
 ·exact hd
 ·rename_i fs
  cases hb:fs.toList.all (fun f=>f.name != "_")<;>rw [hb] at h<;>simp at h
theorem i2{t e:TypeId}{ti:TI}{n:Nat}(ht:gJ P t ti)(hk:ti.kind= .array n e):P.underlying t=some (.array n e):=by
 obtain ⟨_,⟨d,hd,h⟩,_⟩:=ht
 rw [hk] at h
 cases d<;>simp only [lM,an,reduceCtorEq] at h
 ·injection h with h1 h2;rw [<- h1,<- h2];exact hd
 ·rename_i fs
  cases hb:fs.toList.all (fun f=>f.name != "_")<;>rw [hb] at h<;>simp at h
theorem cK{t e:TypeId}{ti:TI}(ht:gJ P t ti)(hk:ti.kind= .slice e):P.underlying t=some (.slice e):=by
 obtain ⟨_,⟨d,hd,h⟩,_⟩:=ht
 rw [hk] at h
 cases d<;>simp only [lM,an,reduceCtorEq] at h
 ·injection h with h1;rw [<- h1];exact hd
 ·rename_i fs
  cases hb:fs.toList.all (fun f=>f.name != "_")<;>rw [hb] at h<;>simp at h
theorem kG{t:TypeId}{ti:TI}{fs:List (Nat×TypeId)}(ht:gJ P t ti)(hk:ti.kind= .struct fs):
  ∃gs:Array Field,P.underlying t=some (.struct gs)/\fs=gs.toList.map (fun f=>(f.offset,f.type))/\ ∀f∈gs.toList,f.name≠ "_" :=by
 obtain ⟨_,⟨d,hd,h⟩,_⟩:=ht
 rw [hk] at h
 cases d<;>simp only [lM,an,reduceCtorEq] at h
 rename_i gs
 cases hb:gs.toList.all (fun f=>f.name != "_") with
 |false=>rw [hb] at h;simp at h
 |true=>
  rw [hb] at h
  simp only [ar,an,TK.struct.injEq] at h
  refine ⟨gs,hd,h.symm,fun f hf=> ?_⟩
  have:=gb.1 hb f hf
  simpa using this
def rR(E:Value->Value->Sem Bool)(e:TypeId)(n:Nat)(xs ys:Array Value):List Nat->Sem Bool
 | []=>pure true
 |i::l=>do
  let a<- part e xs (i*n)
  let b<- part e ys (i*n)
  let r<- E a b
  if (!r)=true then pure false else rR E e n xs ys l
theorem zJ(w:World)(d:Nat)(t e:TypeId)(len:Nat)(xs ys:Array Value)(n:Nat)(ht:P.underlying t=some (.array len e))(hn: ∀w,(sizeOf e).run P w= .ok n w):
  (Op.equalIn (d+1) t (.agg xs) (.agg ys)).run P w=(rR (Op.equalIn d e) e n xs ys (List.range' 0 len)).run P w:=by
 have hu: ∀w,(Go.underlying t).run P w= .ok (.array len e) w:=fun w=>by simp [Go.underlying,ht]
 simp only [Op.equalIn,Sem.run_bind,hu,Result.andThen_ok,hn,Std.Legacy.Range.forIn_eq_forIn_range',Std.Legacy.Range.size]
 rw [show (len - 0+1 - 1)/1=len by omega]
 generalize List.range' 0 len=l
 induction l generalizing w with
 |nil=>simp [rR]
 |cons i l ih=>
  simp only [List.forIn_cons,rR,Sem.run_bind,Sem.run_ite]
  generalize (part e xs (i*n)).run P w=r1
  cases r1 with
  |ok a w1=>
   simp only [Result.andThen_ok]
   generalize (part e ys (i*n)).run P w1=r2
   cases r2 with
   |ok b w2=>
    simp only [Result.andThen_ok]
    generalize (Op.equalIn d e a b).run P w2=r3
    cases r3 with
    |ok r w3=>
     cases r
     ·simp only [Result.andThen_ok,fx,if_true,Sem.run_pure]
     ·simp only [Result.andThen_ok,eb,bz,ea,Sem.run_pure]
      exact ih w3
    |halt x w3=>simp [Result.andThen]
   |halt x w2=>simp [Result.andThen]
  |halt x w1=>simp [Result.andThen]
theorem CD {tt:TypeId->Option TI} {E:TypeId->List SV->List SV->Option Bool} {d:Nat} (htt: ∀t ti,tt t=some ti->gJ P t ti)
  {ρ:aL} {T:Nat->Prop} {w:World}
  (hsh: ∀t ti xs ys b,tt t=some ti->E t xs ys=some b->isAgg ti.kind=true\/((∃v,xs=[v])/\ ∃v,ys=[v]))
  (hE: ∀t ti xs ys b x y,tt t=some ti->E t xs ys=some b->BH ti ρ T w xs x->BH ti ρ T w ys y->(Op.equalIn d t x y).run P w= .ok b w)
  {xs ys:List SV} {a c:Array Value} (hx:aX ρ T w xs a.toList) (hy:aX ρ T w ys c.toList):
  ∀(gs:List Field) (b:Bool),(∀f∈gs,f.name≠ "_")->eqFields tt E (gs.map fun f=>(f.offset,f.type)) xs ys=some b->
   (Op.eqFields d a c gs).run P w= .ok b w
 | [],b,_,h=>by simp only [List.map_nil,eqFields,an] at h;subst h;rfl
 |f::gs,b,hn,h=>by
  simp only [List.map_cons,eqFields] at h
  split at h
  ·cases h
  ·rename_i ti ht
   split at h
   ·cases h
   ·rename_i r hr
    have hs:=hsh _ _ _ _ _ ht hr
    obtain ⟨x,hx1,hx2⟩:=wS (htt _ _ ht) hx f.offset (hs.imp id (·.1))
    obtain ⟨y,hy1,hy2⟩:=wS (htt _ _ ht) hy f.offset (hs.imp id (·.2))
    have he:=hE _ _ _ _ _ _ _ ht hr hx2 hy2
    simp only [Op.eqFields,hn f (by simp),ne_eq,not_false_eq_true,if_true,Sem.run_bind,hx1,Result.andThen_ok,hy1,he]
    have hlast:gs.map (fun f=>(f.offset,f.type))=[]->gs=[]:=by cases gs<;>simp
    split at h
    ·rename_i hnil
     obtain rfl:r=b:=by simpa using h
     rw [hlast hnil]
     cases r<;>rfl
    ·split at h
     ·cases h
     ·rename_i q hq
      cases h
      have ih:=CD htt hsh hE hx hy gs q (fun f hf=>hn f (by simp [hf])) hq
      cases r
      ·rfl
      ·simp only [eb,bz,ea,ch];exact ih
theorem DM {E:List SV->List SV->Option Bool} {F:Value->Value->Sem Bool} {e:TypeId} {te:TI} (hte:gJ P e te)
  {ρ:aL} {T:Nat->Prop} {w:World}
  (hsh: ∀xs ys b,E xs ys=some b->isAgg te.kind=true\/((∃v,xs=[v])/\ ∃v,ys=[v]))
  (hE: ∀xs ys b x y,E xs ys=some b->BH te ρ T w xs x->BH te ρ T w ys y->(F x y).run P w= .ok b w)
  {xs ys:List SV} {a c:Array Value} (hx:aX ρ T w xs a.toList) (hy:aX ρ T w ys c.toList):
  ∀(n i:Nat) (b:Bool),wN E te.size n (xs.drop (i*te.size)) (ys.drop (i*te.size))=some b->
   (rR F e te.size a c (List.range' i n)).run P w= .ok b w
 |0,i,b,h=>by simp only [wN,an] at h;subst h;rfl
 |n+1,i,b,h=>by
  simp only [wN] at h
  split at h
  ·cases h
  ·rename_i r hr
   have hs:=hsh _ _ _ hr
   obtain ⟨x,hx1,hx2⟩:=wS hte hx (i*te.size) (hs.imp id (·.1))
   obtain ⟨y,hy1,hy2⟩:=wS hte hy (i*te.size) (hs.imp id (·.2))
   have he:=hE _ _ _ _ _ hr hx2 hy2
   simp only [List.range'_succ,rR,Sem.run_bind,hx1,Result.andThen_ok,hy1,he]
   split at h
   ·obtain rfl:r=b:=by simpa using h
    cases r<;>rfl
   ·split at h
    ·cases h
    ·rename_i q hq
     cases h
     rw [List.drop_drop,List.drop_drop,show i*te.size+te.size=(i+1)*te.size by rw [Nat.succ_mul]] at hq
     have ih:=DM hte hsh hE hx hy n (i+1) q hq
     cases r
     ·rfl
     ·simp only [eb,bz,ea,ch];exact ih
theorem KX{tt:TypeId->Option TI}(htt: ∀t ti,tt t=some ti->gJ P t ti){ρ:aL}{T:Nat->Prop}{w:World}:
  ∀(d d':Nat) (t:TypeId) (ti:TI) (xs ys:List SV) (b:Bool) (x y:Value),d<=d'->tt t=some ti->KW tt d t xs ys=some b->
   BH ti ρ T w xs x->BH ti ρ T w ys y->(Op.equalIn d' t x y).run P w= .ok b w
 |0,_,_,_,_,_,_,_,_,_,_,h,_,_=>by cases h
 |d+1,0,_,_,_,_,_,_,_,hd,_,_,_,_=>by omega
 |d+1,d'+1,t,ti,xs,ys,b,x,y,hd,ht,h,hx,hy=>by
  have hti:=htt _ _ ht
  simp only [KW,ht] at h
  cases hk:ti.kind<;>simp only [hk] at h
  case bool=>
   simp only [BH,hk,isAgg,bz,false_and,false_or,true_and] at hx hy
   obtain ⟨v,rfl,hv⟩:=hx
   obtain ⟨u,rfl,hu⟩:=hy
   split at h
   ·rename_i p q h1 h2
    simp only [List.cons.injEq,and_true] at h1 h2
    subst h1;subst h2
    cases hv;cases hu;cases h
    exact run_equalIn_bool' w d' t p q (wZ hti hk)
   ·cases h
  case int k=>
   simp only [BH,hk,isAgg,bz,false_and,false_or,true_and] at hx hy
   obtain ⟨v,rfl,hv⟩:=hx
   obtain ⟨u,rfl,hu⟩:=hy
   split at h
   ·rename_i i p j q h1 h2
    simp only [List.cons.injEq,and_true] at h1 h2
    subst h1;subst h2
    obtain ⟨rfl,-⟩:=hv
    obtain ⟨rfl,-⟩:=hu
    cases hjk:decide (i=j) with
    |false=>rw [hjk] at h;cases h
    |true=>
     rw [hjk] at h
     cases h
     obtain rfl:=aa hjk
     exact run_equalIn_int w d' t i k p q (sO hti hk)
   ·cases h
  case string=>
   simp only [BH,hk,isAgg,bz,false_and,false_or,true_and] at hx hy
   obtain ⟨v,rfl,hv⟩:=hx
   obtain ⟨u,rfl,hu⟩:=hy
   split at h
   ·rename_i p q h1 h2
    simp only [List.cons.injEq,and_true] at h1 h2
    subst h1;subst h2
    obtain ⟨rfl,-⟩:=hv
    obtain ⟨rfl,-⟩:=hu
    cases h
    rw [run_equalIn_string w d' t p q (gL hti hk),beq_toListBytes]
   ·cases h
  case struct fs=>
   simp only [BH,hk,isAgg,true_and,Bool.true_eq_false,false_and,fy] at hx hy
   obtain ⟨a,rfl,hxa⟩:=hx
   obtain ⟨c,rfl,hyc⟩:=hy
   obtain ⟨gs,hgs,rfl,hname⟩:=kG hti hk
   have hfo:P.fieldsOf t=gs:=by simp [Program.fieldsOf,hgs]
   rw [run_equalIn_struct w d' t a c (by rw [hfo];exact hgs) (hti.held _ hk).1,hfo]
   exact CD htt (fun t ti xs ys b ht h=>DQ ht h)
    (fun t ti xs ys b x y ht h hx hy=>KX htt d d' t ti xs ys b x y (by omega) ht h hx hy) hxa hyc _ b hname h
  case array n e=>
   simp only [BH,hk,isAgg,true_and,Bool.true_eq_false,false_and,fy] at hx hy
   obtain ⟨a,rfl,hxa⟩:=hx
   obtain ⟨c,rfl,hyc⟩:=hy
   split at h
   ·rename_i te hte
    cases n with
    |zero=>cases h
    |succ n=>
    rw [zJ w d' t e (n+1) a c te.size (i2 hti hk) (fun w=>(htt _ _ hte).sizeOf)]
    exact DM (htt _ _ hte) (fun xs ys b h=>DQ hte h)
     (fun xs ys b x y h hx hy=>KX htt d d' e te xs ys b x y (by omega) hte h hx hy) hxa hyc (n+1) 0 b (by simpa using h)
   ·cases h
  all_goals cases h
theorem xZ{tt:TypeId->Option TI}(htt: ∀t ti,tt t=some ti->gJ P t ti):
  ∀(d d':Nat) (t:TypeId) (xs ys:List SV) (b:Bool),d<=d'->KW tt d t xs ys=some b->P.eqGuardType d' t=false
 |0,_,_,_,_,_,_,h=>by cases h
 |d+1,0,_,_,_,_,hd,_=>by omega
 |d+1,d'+1,t,xs,ys,b,hd,h=>by
  simp only [KW] at h
  split at h
  ·cases h
  ·rename_i ti ht
   have hti:=htt _ _ ht
   cases hk:ti.kind<;>simp only [hk] at h
   case bool=>simp [Program.eqGuardType,wZ hti hk]
   case int k=>simp [Program.eqGuardType,sO hti hk]
   case string=>simp [Program.eqGuardType,gL hti hk]
   case struct fs=>
    obtain ⟨gs,hgs,rfl,hname⟩:=kG hti hk
    simp only [Program.eqGuardType,hgs]
    rw [<- Array.any_toList,List.any_eq_false]
    revert h
    generalize gs.toList=l
    intro h f hf
    simp only [af,not_and,Bool.not_eq_true]
    intro _
    revert b
    induction l with
    |nil=>cases hf
    |cons g l ih=>
     intro b h
     simp only [List.map_cons,eqFields] at h
     split at h
     ·cases h
     ·split at h
      ·cases h
      ·rename_i r hr
       rcases cb.1 hf with rfl|hf
       ·exact xZ htt d d' _ _ _ r (by omega) hr
       ·split at h
        ·rename_i hnil
         cases l
         ·cases hf
         ·simp at hnil
        ·split at h
         ·cases h
         ·rename_i q hq
          exact ih hf q hq
   case array n e=>
    simp only [Program.eqGuardType,i2 hti hk]
    split at h
    ·rename_i te hte
     cases n with
     |zero=>cases h
     |succ n=>
      simp only [wN] at h
      split at h
      ·cases h
      ·rename_i r hr
       exact xZ htt d d' _ _ _ r (by omega) hr
    ·cases h
   all_goals cases h
end Go.Se
namespace Go.Se
variable {P:Program}
theorem oJ{t e:TypeId}{ti:TI}(ht:gJ P t ti)(hk:ti.kind= .ptr e):P.underlying t=some (.pointer e):=by
 obtain ⟨_,⟨d,hd,h⟩,_⟩:=ht
 rw [hk] at h
 cases d<;>simp only [lM,an,reduceCtorEq] at h
 ·injection h with h1;rw [<- h1];exact hd
 ·rename_i fs
  cases hb:fs.toList.all (fun f=>f.name != "_")<;>rw [hb] at h<;>simp at h
theorem F7{t:TypeId}{ti:TI}{n:Bool}(ht:gJ P t ti)(hk:ti.kind= .iface n): ∃ms,P.underlying t=some (.interface ms)/\n=ms.isEmpty:=by
 obtain ⟨_,⟨d,hd,h⟩,_⟩:=ht
 rw [hk] at h
 cases d<;>simp only [lM,an,reduceCtorEq] at h
 ·rename_i fs
  cases hb:fs.toList.all (fun f=>f.name != "_")<;>rw [hb] at h<;>simp at h
 ·rename_i ms
  injection h with h;exact ⟨ms,hd,h.symm⟩
theorem dS{tt:TypeId->Option TI}{t:TypeId}{p:TK->Bool}(h:dI tt t p=true): ∃ti,tt t=some ti/\p ti.kind=true:=by
 unfold dI at h
 split at h
 ·rename_i ti ht;exact ⟨ti,ht,h⟩
 ·cases h
theorem PU{op:BinOp}{b:Bool}{K:SV->Prop}(h:eqE op b K):(op= .eql/\K (.bool b))\/(op= .neq/\K (.bool (!b))):=by
 cases op<;>simp only [eqE] at h<;>simp [h]
section
variable (w:World) (d:Nat) (t:TypeId)
theorem aMM{e:TypeId}(h:P.underlying t=some (.pointer e)):(Op.equalIn (d+1) t (.pointer none) (.pointer none)).run P w= .ok true w:=by
 simp only [Op.equalIn,Sem.run_bind,Go.underlying,run_program,h,Result.andThen_ok,Sem.run_pure];rfl
theorem aK3{e:TypeId}(a:Addr)(h:P.underlying t=some (.pointer e)):(Op.equalIn (d+1) t (.pointer (some a)) (.pointer none)).run P w= .ok false w:=by
 simp only [Op.equalIn,Sem.run_bind,Go.underlying,run_program,h,Result.andThen_ok,Sem.run_pure]
theorem aMB{e:TypeId}{j:TypeInfo}(a:Addr)(h:P.underlying t=some (.pointer e))(hte:P.info? e=some j):(Op.equalIn (d+1) t (.pointer (some a)) (.pointer (some a))).run P w= .ok true w:=by
 simp [Op.equalIn,run_underlying h,sizeOf,typeInfo,hte,run_sameAddr_same]
theorem aMU{ms:Array (String×TypeId)}(h:P.underlying t=some (.interface ms)):(Op.equalIn (d+1) t .nilIface .nilIface).run P w= .ok true w:=by
 simp only [Op.equalIn,Sem.run_bind,Go.underlying,run_program,h,Result.andThen_ok,Sem.run_pure]
theorem aMO{ms:Array (String×TypeId)}(u:TypeId)(x:Value)(h:P.underlying t=some (.interface ms)):(Op.equalIn (d+1) t (.iface u x) .nilIface).run P w= .ok false w:=by
 simp only [Op.equalIn,Sem.run_bind,Go.underlying,run_program,h,Result.andThen_ok,Sem.run_pure]
theorem aMI{e:TypeId}(h:P.underlying t=some (.slice e)):(Op.equalIn (d+1) t (.slice none 0 0) (.slice none 0 0)).run P w= .ok true w:=by
 simp only [Op.equalIn,Sem.run_bind,Go.underlying,run_program,h,Result.andThen_ok,Sem.run_pure];rfl
theorem aFX{e:TypeId}(a:Addr)(n m:Nat)(h:P.underlying t=some (.slice e)):(Op.equalIn (d+1) t (.slice (some a) n m) (.slice none 0 0)).run P w= .ok false w:=by
 simp only [Op.equalIn,Sem.run_bind,Go.underlying,run_program,h,Result.andThen_ok,Sem.run_pure]
end
theorem aCt(P:Program):12<=P.depth:=by unfold Program.depth Made.depth;omega
theorem c8(op:BinOp)(t:TypeId)(xo yo:Operand)(x y:Value)(w:World)(h:(match x,y with| .nilIface,.nilIface=>false| .agg _,.agg _=>false|_,_=>true)=true):
  (eqGuard op t xo yo x y).run P w= .ok () w:=by
 unfold eqGuard
 cases op<;>first|rfl|(cases x<;>cases y<;>first|rfl|(simp at h;done))
def aCP(P:Program)(op:BinOp)(t:TypeId)(xo yo:Operand)(x y v:SV):Prop:=
 ∀(ρ:aL) (T:Nat->Prop) (w:World) (xv yv:Value),rel ρ T w x xv->rel ρ T w y yv->
  ∃r,(eqGuard op t xo yo xv yv).run P w= .ok () w/\(Go.binOp op t xv yv).run P w= .ok r w/\rel ρ T w v r
theorem mP {op:BinOp} {t:TypeId} {xo yo:Operand} {x y:SV} {b:Bool} {K:SV->Prop} (h:eqE op b K)
  (H: ∀(ρ:aL) (T:Nat->Prop) (w:World) (xv yv:Value),rel ρ T w x xv->rel ρ T w y yv->
   (eqGuard op t xo yo xv yv).run P w= .ok () w/\(Op.equalIn Op.maxDepth t xv yv).run P w= .ok b w/\
   Go.binOp .eql t xv yv=(do Pure.pure (.bool (<- Op.equal t xv yv)))/\Go.binOp .neq t xv yv=(do Pure.pure (.bool (!(<- Op.equal t xv yv))))):
  ∃v,K v/\aCP P op t xo yo x y v:=by
 rcases PU h with ⟨rfl,h⟩|⟨rfl,h⟩
 ·refine ⟨_,h,fun ρ T w xv yv hx hy=> ?_⟩
  obtain ⟨h1,h2,h3,_⟩:=H ρ T w xv yv hx hy
  exact ⟨_,h1,by rw [h3];simp [Op.equal,h2],rfl⟩
 ·refine ⟨_,h,fun ρ T w xv yv hx hy=> ?_⟩
  obtain ⟨h1,h2,_,h3⟩:=H ρ T w xv yv hx hy
  exact ⟨_,h1,by rw [h3];simp [Op.equal,h2],rfl⟩
theorem E3{op:BinOp}{t:TypeId}{xo yo:Operand}{j k:IntKind}{a b:Int}{K:SV->Prop}(hk:(op= .shl\/op= .shr)\/j=k)(h:AO op j a b K):
  ∃v,K v/\aCP P op t xo yo (.int j a) (.int k b) v:=by
 by_cases ha:j.min<=a/\a<=j.max
 ·obtain ⟨v,hv,hr⟩:=ZC (P:=P) ha h t
  refine ⟨v,hv,fun ρ T w xv yv hx hy=> ?_⟩
  obtain ⟨rfl,_⟩:=hx
  obtain ⟨rfl,_⟩:=hy
  obtain ⟨r,hr1,hr2⟩:=hr ρ T w k hk
  exact ⟨r,c8 _ _ _ _ _ _ _ rfl,hr1,hr2⟩
 ·have: ∃v,K v:=by
   cases op<;>simp only [AO] at h
   case quo=>exact ⟨_,(If.elim h).2⟩
   case rem=>exact ⟨_,(If.elim h).2⟩
   case shl=>exact ⟨_,(If.elim h).2⟩
   case shr=>exact ⟨_,(If.elim h).2⟩
   all_goals exact ⟨_,h⟩
  obtain ⟨v,hv⟩:=this
  exact ⟨v,hv,fun ρ T w xv yv hx _=>absurd hx.2 ha⟩
theorem aAL {tt:TypeId->Option TI} (htt: ∀t ti,tt t=some ti->gJ P t ti) {op:BinOp} {t:TypeId} {cst:Bool} {x y:SV} {K:SV->Prop}
  (h:KY tt op t cst x y K) {xo yo:Operand} (hc:cst=true->qV xo=true\/qV yo=true): ∃v,K v/\aCP P op t xo yo x y v:=by
 unfold KY at h
 split at h
 ·rename_i j a k b
  split at h
  ·exact E3 (.inl (.inl rfl)) h
  ·exact E3 (.inl (.inr rfl)) h
  ·split at h
   ·rename_i hjk;exact E3 (.inr (aa hjk)) h
   ·exact h.elim
 ·rename_i a b
  cases hki:dI tt t VU with
  |false=>rw [hki] at h;exact h.elim
  |true=>
   rw [hki] at h
   obtain ⟨ti,ht,hk⟩:=dS hki
   have hkb:ti.kind= .bool:=by cases hkk:ti.kind<;>rw [hkk] at hk<;>first|rfl|cases hk
   refine mP h fun ρ T w xv yv hx hy=> ?_
   cases hx;cases hy
   exact ⟨c8 _ _ _ _ _ _ _ rfl,run_equalIn_bool' w 9999 t a b (wZ (htt _ _ ht) hkb),by simp [Go.binOp],by simp [Go.binOp]⟩
 ·rename_i a b
  split at h
  ·obtain ⟨hs,h⟩:=If.elim h
   have hs':a.size+b.size<9223372036854775808:=by simpa using hs
   refine ⟨_,h,fun ρ T w xv yv hx hy=> ?_⟩
   obtain ⟨rfl,ha⟩:=hx
   obtain ⟨rfl,hb⟩:=hy
   refine ⟨.string (a++b),c8 _ _ _ _ _ _ _ rfl, ?_,rfl,by simpa [ByteArray.size_append] using hs'⟩
   have: ¬((a.size+b.size:Nat):Int)>IntKind.i64.max:=by
    show¬_>(9223372036854775807:Int);omega
   simp only [Go.binOp,Op.stringOp,if_neg this]
   rfl
  ·rcases PU h with ⟨rfl,h⟩|⟨rfl,h⟩
   ·refine ⟨_,h,fun ρ T w xv yv hx hy=> ?_⟩
    obtain ⟨rfl,ha⟩:=hx
    obtain ⟨rfl,hb⟩:=hy
    exact ⟨.bool (a==b),c8 _ _ _ _ _ _ _ rfl,by simp [Go.binOp,Op.stringOp,beq_toListBytes],rfl⟩
   ·refine ⟨_,h,fun ρ T w xv yv hx hy=> ?_⟩
    obtain ⟨rfl,ha⟩:=hx
    obtain ⟨rfl,hb⟩:=hy
    exact ⟨.bool (!(a==b)),c8 _ _ _ _ _ _ _ rfl,by simp [Go.binOp,Op.stringOp,beq_toListBytes],rfl⟩
 ·cases hki:dI tt t u1 with
  |false=>rw [hki] at h;exact h.elim
  |true=>
   rw [hki] at h
   obtain ⟨ti,ht,hk⟩:=dS hki
   obtain ⟨e,hkb⟩: ∃e,ti.kind= .ptr e:=by cases hkk:ti.kind<;>rw [hkk] at hk<;>first|exact ⟨_,rfl⟩|cases hk
   refine mP h fun ρ T w xv yv hx hy=> ?_
   cases hx;cases hy
   exact ⟨c8 _ _ _ _ _ _ _ rfl,aMM w 9999 t (oJ (htt _ _ ht) hkb),by simp [Go.binOp],by simp [Go.binOp]⟩
 ·cases hki:dI tt t u1 with
  |false=>rw [hki] at h;exact h.elim
  |true=>
   rw [hki] at h
   obtain ⟨ti,ht,hk⟩:=dS hki
   obtain ⟨e,hkb⟩: ∃e,ti.kind= .ptr e:=by cases hkk:ti.kind<;>rw [hkk] at hk<;>first|exact ⟨_,rfl⟩|cases hk
   refine mP h fun ρ T w xv yv hx hy=> ?_
   obtain ⟨b,_,rfl⟩:=hx
   cases hy
   exact ⟨c8 _ _ _ _ _ _ _ rfl,aK3 w 9999 t _ (oJ (htt _ _ ht) hkb),by simp [Go.binOp],by simp [Go.binOp]⟩
 ·cases hki:dI tt t u1 with
  |false=>rw [hki] at h;exact h.elim
  |true=>
   rw [hki] at h
   obtain ⟨ti,ht,hk⟩:=dS hki
   obtain ⟨e,hkb⟩: ∃e,ti.kind= .ptr e:=by cases hkk:ti.kind<;>rw [hkk] at hk<;>first|exact ⟨_,rfl⟩|cases hk
   refine mP h fun ρ T w xv yv hx hy=> ?_
   obtain ⟨b,_,rfl⟩:=hx
   cases hy
   exact ⟨c8 _ _ _ _ _ _ _ rfl,aK3 w 9999 t _ (oJ (htt _ _ ht) hkb),by simp [Go.binOp],by simp [Go.binOp]⟩
 ·cases hki:dI tt t u1 with
  |false=>rw [hki] at h;exact h.elim
  |true=>
   rw [hki] at h
   obtain ⟨ti,ht,hk⟩:=dS hki
   obtain ⟨e,hkb⟩: ∃e,ti.kind= .ptr e:=by cases hkk:ti.kind<;>rw [hkk] at hk<;>first|exact ⟨_,rfl⟩|cases hk
   refine mP h fun ρ T w xv yv hx hy=> ?_
   obtain ⟨b,o,rfl,_⟩:=hx
   cases hy
   exact ⟨c8 _ _ _ _ _ _ _ rfl,aK3 w 9999 t _ (oJ (htt _ _ ht) hkb),by simp [Go.binOp],by simp [Go.binOp]⟩
 ·rename_i i o j q
  cases hki:dI tt t (aH6 tt)&&(Nat.beq i j&&Nat.beq o q) with
  |false=>rw [hki] at h;exact h.elim
  |true=>
   rw [hki] at h
   simp only [af] at hki
   obtain ⟨ti,ht,hk⟩:=dS hki.1
   obtain rfl:=ai hki.2.1
   obtain rfl:=ai hki.2.2
   obtain ⟨e,hkb⟩: ∃e,ti.kind= .ptr e:=by cases hkk:ti.kind<;>rw [hkk] at hk<;>first|exact ⟨_,rfl⟩|cases hk
   rw [hkb] at hk
   obtain ⟨te,hte⟩:=db.1 hk
   obtain ⟨⟨inf,hinf,_⟩,_,_⟩:=htt _ _ hte
   refine mP h fun ρ T w xv yv hx hy=> ?_
   obtain ⟨b,hb,rfl⟩:=hx
   obtain ⟨c,hc,rfl⟩:=hy
   rw [hb] at hc;cases hc
   exact ⟨c8 _ _ _ _ _ _ _ rfl,aMB w 9999 t _ (oJ (htt _ _ ht) hkb) hinf,by simp [Go.binOp],by simp [Go.binOp]⟩
 ·cases hki:dI tt t qJ&&cst with
  |false=>rw [hki] at h;exact h.elim
  |true=>
   rw [hki] at h
   simp only [af] at hki
   obtain ⟨ti,ht,hk⟩:=dS hki.1
   obtain ⟨e,hkb⟩: ∃e,ti.kind= .iface e:=by cases hkk:ti.kind<;>rw [hkk] at hk<;>first|exact ⟨_,rfl⟩|cases hk
   obtain ⟨ms,hm,_⟩:=F7 (htt _ _ ht) hkb
   refine mP h fun ρ T w xv yv hx hy=> ?_
   cases hx;cases hy
   refine ⟨?_,aMU w 9999 t hm,by simp [Go.binOp],by simp [Go.binOp]⟩
   unfold eqGuard
   rcases hc hki.2 with hx|hx
   ·cases xo<;>simp only [qV,bz] at hx
    cases op<;>rfl
   ·cases yo<;>simp only [qV,bz] at hx
    cases op<;>first|rfl|(cases xo<;>rfl)
 ·cases hki:dI tt t qJ with
  |false=>rw [hki] at h;exact h.elim
  |true=>
   rw [hki] at h
   obtain ⟨ti,ht,hk⟩:=dS hki
   obtain ⟨e,hkb⟩: ∃e,ti.kind= .iface e:=by cases hkk:ti.kind<;>rw [hkk] at hk<;>first|exact ⟨_,rfl⟩|cases hk
   obtain ⟨ms,hm,_⟩:=F7 (htt _ _ ht) hkb
   refine mP h fun ρ T w xv yv hx hy=> ?_
   obtain ⟨b,rfl,_⟩:=hx
   cases hy
   exact ⟨c8 _ _ _ _ _ _ _ rfl,aMO w 9999 t _ _ hm,by simp [Go.binOp],by simp [Go.binOp]⟩
 ·cases hki:dI tt t isAgg with
  |false=>rw [hki] at h;exact h.elim
  |true=>
  rw [hki] at h
  obtain ⟨ti,ht,hag⟩:=dS hki
  simp only [ar] at h
  split at h
  ·rename_i b hb'
   refine mP h fun ρ T w xv yv hx hy=> ?_
   obtain ⟨a,rfl,ha⟩:=hx
   obtain ⟨c,rfl,hb⟩:=hy
   exact ⟨run_eqGuard_agg w op t xo yo a c (xZ htt 12 P.depth t _ _ b (aCt P) hb'),
    KX htt (ρ:=ρ) (T:=T) (w:=w) 12 Op.maxDepth t ti _ _ b (.agg a) (.agg c) (by decide) ht hb' (.inl ⟨hag,a,rfl,ha⟩) (.inl ⟨hag,c,rfl,hb⟩),
    by simp [Go.binOp],by simp [Go.binOp]⟩
  ·exact h.elim
 ·cases hki:dI tt t kN with
  |false=>rw [hki] at h;exact h.elim
  |true=>
   rw [hki] at h
   simp only [ar] at h
   obtain ⟨hn,h⟩:=If.elim h
   have hn:=aa hn
   obtain ⟨ti,ht,hk⟩:=dS hki
   obtain ⟨e,hkb⟩: ∃e,ti.kind= .slice e:=by cases hkk:ti.kind<;>rw [hkk] at hk<;>first|exact ⟨_,rfl⟩|cases hk
   have hu:=cK (htt _ _ ht) hkb
   refine mP h fun ρ T w xv yv hx hy=> ?_
   cases hy
   obtain ⟨a,c,rfl,_,hx⟩:=hx
   obtain ⟨b,off,rfl,_⟩:=hx hn
   exact ⟨c8 _ _ _ _ _ _ _ rfl,aFX w 9999 t _ _ _ hu,by simp [Go.binOp],by simp [Go.binOp]⟩
 ·split at h
  ·rename_i b hb
   cases hki:dI tt t kN with
   |false=>rw [hki] at h;exact h.elim
   |true=>
    rw [hki] at h
    obtain ⟨ti,ht,hk⟩:=dS hki
    obtain ⟨e,hkb⟩: ∃e,ti.kind= .slice e:=by cases hkk:ti.kind<;>rw [hkk] at hk<;>first|exact ⟨_,rfl⟩|cases hk
    have hu:=cK (htt _ _ ht) hkb
    unfold O6 at hb
    refine mP h fun ρ T w xv yv hx hy=> ?_
    cases hy
    split at hb
    ·cases hx;cases hb
     exact ⟨c8 _ _ _ _ _ _ _ rfl,aMI w 9999 t hu,by simp [Go.binOp],by simp [Go.binOp]⟩
    ·obtain ⟨a,c,rfl⟩:=hx
     cases hb
     exact ⟨c8 _ _ _ _ _ _ _ rfl,aFX w 9999 t _ _ _ hu,by simp [Go.binOp],by simp [Go.binOp]⟩
    ·obtain ⟨⟨b,_,rfl⟩,_⟩:=hx
     cases hb
     exact ⟨c8 _ _ _ _ _ _ _ rfl,aFX w 9999 t _ _ _ hu,by simp [Go.binOp],by simp [Go.binOp]⟩
    ·obtain ⟨b,c,_,rfl,_⟩:=hx
     cases hb
     exact ⟨c8 _ _ _ _ _ _ _ rfl,aFX w 9999 t _ _ _ hu,by simp [Go.binOp],by simp [Go.binOp]⟩
    ·cases hb
  ·exact h.elim
 ·exact h.elim
end Go.Se
namespace Go.Se
variable {P:Program}
theorem aIU{ρ:aL}{T:Nat->Prop}{w:World}{x y:SV}{xv yv:Value}(b:Bool)(hx:b=true->rel ρ T w x xv)(hy:b=false->rel ρ T w y yv):
  rel ρ T w (sel b x y) (if b then xv else yv):=by
 unfold sel
 split
 ·split
  ·rename_i hjk
   obtain rfl:=aa hjk
   cases b
   ·exact hy rfl
   ·exact hx rfl
  ·cases b
   ·exact hy rfl
   ·exact hx rfl
 ·cases b
  ·exact hy rfl
  ·exact hx rfl
 ·cases b
  ·exact hy rfl
  ·exact hx rfl
section
variable {st:St} {o:Oper} {K:KV} {tt:TypeId->Option TI} (htt: ∀t ti,tt t=some ti->gJ P t ti)
theorem YN{x:Operand}(ho:o.op= .move x)(h:K (eval st.tmps x) [] st.nxt [] []):cD P st o K:=
 cD.pure h (gY.pure fun ρ T a w hx=>⟨a.eval x,by simp [execOp,ho],hx x (by simp [ho,Op.operands])⟩)
theorem NM{x:Operand}(ho:o.op= .assign x)(h:K (eval st.tmps x) [] st.nxt [] []):cD P st o K:=
 cD.pure h (gY.pure fun ρ T a w hx=>⟨a.eval x,by simp [execOp,ho],hx x (by simp [ho,Op.operands])⟩)
theorem Z3{c x y:Operand}{b:Bool}(ho:o.op= .pick c x y)(hc:eval st.tmps c= .bool b)(h:K (sel b (eval st.tmps x) (eval st.tmps y)) [] st.nxt [] []):cD P st o K:=
 cD.pure h (gY.pure fun ρ T a w hx=>by
  have h1:=hx c (by simp [ho,Op.operands])
  rw [hc] at h1
  refine ⟨if b then a.eval x else a.eval y, ?_,aIU b (fun _=>hx x (by simp [ho,Op.operands])) (fun _=>hx y (by simp [ho,Op.operands]))⟩
  have h2:a.eval c= .bool b:=h1
  simp [execOp,ho,h2,asBool])
theorem sC{ρ:aL}{T:Nat->Prop}{w:World}{l:mQ}{a:Act}: ∀(xs:List Operand),(∀x,x∈xs->rel ρ T w (eval l x) (a.eval x))->
  aX ρ T w (xs.map (eval l)) (xs.map a.eval)
 | [],_=>rfl
 |x::xs,h=>⟨_,_,rfl,h x (by simp),sC xs fun y hy=>h y (by simp [hy])⟩
theorem HJ {f:Fn} {x y:Array Operand} (ho:o.op= .makeFunc f x y)
  (h:K (.fn f (x.toList.map (eval st.tmps)) (y.toList.map (eval st.tmps))) [] st.nxt [] []):cD P st o K:=
 cD.pure h (gY.pure fun ρ T a w hx=>by
  refine ⟨.func f (x.map a.eval) (y.map a.eval),by simp [execOp,ho,Instr.makeFunc],_,_,rfl, ?_, ?_⟩
  ·rw [gj];exact sC _ fun z hz=>hx z (by simp [ho,Op.operands];exact .inl (by simpa using hz))
  ·rw [gj];exact sC _ fun z hz=>hx z (by simp [ho,Op.operands];exact .inr (by simpa using hz)))
theorem GP{ρ:aL}{T:Nat->Prop}{w:World}: ∀{l:List SV} {m:List Value} (i:Nat) {v:SV},aX ρ T w l m->l[i]? =some v-> ∃x,m[i]? =some x/\rel ρ T w v x
 | [],_,_,_,_,h=>by simp at h
 |a::l,m,0,v,⟨x,r,h1,h2,h3⟩,h=>by
  simp only [cv,an] at h
  subst h;rw [h1];exact ⟨x,by simp,h2⟩
 |a::l,m,i+1,v,⟨x,r,h1,h2,h3⟩,h=>by
  rw [h1];simpa using GP i h3 (by simpa using h)
theorem L8{x:Operand}{i:Nat}{vs:List SV}{v:SV}(ho:o.op= .extract x i)(hx:eval st.tmps x= .tup vs)(hv:vs[i]? =some v)(h:K v [] st.nxt [] []):cD P st o K:=
 cD.pure h (gY.pure fun ρ T a w hr=>by
  have h1:=hr x (by simp [ho,Op.operands])
  rw [hx] at h1
  obtain ⟨c,h2,h3⟩:=h1
  obtain ⟨y,h4,h5⟩:=GP i h3 hv
  refine ⟨y, ?_,h5⟩
  have h6:c[i]? =some y:=by simpa using h4
  simp [execOp,ho,h2,Instr.extract,h6])
theorem rG {x:Operand} (ho:o.op= .nilCheck x) (hp:(match eval st.tmps x with| .ptr _ _=>true| .eptr _ _ _ _=>true| .rptr _=>true|_=>false)=true)
  (h:K (eval st.tmps x) [] st.nxt [] []):cD P st o K:=
 cD.pure h (gY.pure fun ρ T a w hr=>by
  have h1:=hr x (by simp [ho,Op.operands])
  refine ⟨a.eval x, ?_,h1⟩
  cases he:eval st.tmps x<;>rw [he] at hp h1<;>simp only [bz] at hp
  ·obtain ⟨b,_,h2⟩:=h1
   simp [execOp,ho,h2]
  ·obtain ⟨b,_,h2⟩:=h1
   simp [execOp,ho,h2]
  ·obtain ⟨b,o,h2,_⟩:=h1
   simp [execOp,ho,h2])
theorem yF {t:TypeId} {x:Operand} {ti:TI} (ho:o.op= .makeInterface t x) (ht:gJ P t ti) (hi:qJ ti.kind=false)
  (h:K (.iface t (eval st.tmps x)) [] st.nxt [] []):cD P st o K:=
 cD.pure h (gY.pure fun ρ T a w hr=>by
  obtain ⟨d,hd,hd2,hk⟩:=ht.underlying (w:=w)
  refine ⟨.iface t (a.eval x), ?_,_,rfl,hr x (by simp [ho,Op.operands])⟩
  simp only [execOp,ho,Instr.makeInterface,Sem.run_bind,hd,Result.andThen_ok]
  cases d<;>first
   |rfl
   |(simp only [lM,an] at hk;rw [<- hk] at hi;cases hi))
theorem Z7{op:UnOp}{t:TypeId}{x:Operand}(ho:o.op= .unOp op t x)(h:aDU op (eval st.tmps x) fun v=>K v [] st.nxt [] []):cD P st o K:=by
 unfold aDU at h
 split at h
 ·rename_i k n he
  refine cD.pure h (gY.pure fun ρ T a w hr=> ?_)
  have h1:=hr x (by simp [ho,Op.operands])
  rw [he] at h1
  exact ⟨.int k (k.wrap (0 - n)),by simp [execOp,ho,h1.1,Op.unary,Op.intArith],rfl,nR _ _⟩
 ·rename_i k n he
  refine cD.pure h (gY.pure fun ρ T a w hr=> ?_)
  have h1:=hr x (by simp [ho,Op.operands])
  rw [he] at h1
  refine ⟨.int k (k.wrap (BitVec.ofInt k.bits (if k.signed then -1 else k.max)^^^BitVec.ofInt k.bits n).toNat), ?_,rfl,nR _ _⟩
  simp only [execOp,ho,h1.1]
  rfl
 ·rename_i b he
  refine cD.pure h (gY.pure fun ρ T a w hr=> ?_)
  have h1:=hr x (by simp [ho,Op.operands])
  rw [he] at h1
  have h2:a.eval x= .bool b:=h1
  exact ⟨.bool !b,by simp [execOp,ho,h2,Op.unary],rfl⟩
 ·exact h.elim
include htt
theorem U2 {op:BinOp} {t ty:TypeId} {x y:Operand} (ho:o.op= .binOp op t x y ty)
  (h:KY tt op t (qV x||qV y) (eval st.tmps x) (eval st.tmps y) fun v=>K v [] st.nxt [] []):cD P st o K:=by
 obtain ⟨v,hv,hr⟩:=aAL htt h (xo:=x) (yo:=y) (by simp)
 refine cD.pure hv (gY.pure fun ρ T a w hx=> ?_)
 obtain ⟨r,h1,h2,h3⟩:=hr ρ T w _ _ (hx x (by simp [ho,Op.operands])) (hx y (by simp [ho,Op.operands]))
 exact ⟨r,by simp [execOp,ho,h1,h2],h3⟩
theorem KG {src dst:TypeId} {x:Operand} (ho:o.op= .convert src dst x)
  (h:DG tt src dst (eval st.tmps x) fun v=>K v [] st.nxt [] []):cD P st o K:=by
 unfold DG at h
 split at h
 ·rename_i ts ti hs hd
  split at h
  ·rename_i k j n hk he
   refine cD.pure h (gY.pure fun ρ T a w hr=> ?_)
   have h1:=hr x (by simp [ho,Op.operands])
   rw [he] at h1
   obtain ⟨d,hd1,_⟩:=(htt _ _ hs).underlying (w:=w)
   have hu: ∀w,(Go.underlying dst).run P w= .ok (.int k) w:=fun w=>by simp [Go.underlying,sO (htt _ _ hd) hk]
   refine ⟨.int k (k.wrap n), ?_,rfl,nR _ _⟩
   simp only [execOp,ho,h1.1,Go.convert,Sem.run_bind,hd1,Result.andThen_ok,hu]
   rfl
  ·exact h.elim
 ·exact h.elim
omit htt in
theorem GL{T:Nat->Prop}{w:World}: ∀(k:Nat) {cs:List SV} {b o:Nat},fJ T w cs b o->fJ T w (cs.drop k) b (o+k)
 |0,_,_,_,h=>h
 |k+1,[],_,_,_=>by simp [fJ]
 |k+1,c::cs,b,o,h=>by
  have:=GL k h.2
  rw [show o+1+k=o+(k+1) by omega] at this
  exact this
theorem xM{t:TypeId}{ti:TI}{fs:List (Nat×TypeId)}{f off size:Nat}(ht:gJ P t ti)(hk:ti.kind= .struct fs)(h:fieldPlace tt fs f=some (off,size)):
  ∃gs:Array Field,P.underlying t=some (.struct gs)/\ ∃g,gs[f]? =some g/\g.offset=off/\ ∃tf,gJ P g.type tf/\tf.size=size/\tt g.type=some tf:=by
 obtain ⟨gs,hgs,rfl,_⟩:=kG ht hk
 unfold fieldPlace at h
 rw [fm] at h
 cases hg:gs.toList[f]? with
 |none=>rw [hg] at h;cases h
 |some g=>
  rw [hg] at h
  simp only [dq] at h
  split at h
  ·rename_i u hu
   cases h
   exact ⟨gs,hgs,g,by simpa using hg,rfl,u,htt _ _ hu,rfl,hu⟩
  ·cases h
theorem EC {env:Env} (he:env.tt=tt) {s:TypeId} {x:Operand} {f:Nat} (ho:o.op= .fieldAddr s x f)
  (h:x0 env s (eval st.tmps x) f fun v=>K v [] st.nxt [] []):cD P st o K:=by
 unfold x0 at h
 rw [he] at h
 split at h
 ·exact h.elim
 ·rename_i ti ht
  split at h
  ·rename_i fs hk
   split at h
   ·rename_i off size hf
    obtain ⟨gs,hgs,g,hg,rfl,tf,htf,rfl,_⟩:=xM htt (htt _ _ ht) hk hf
    have hu: ∀w,(Go.underlying s).run P w= .ok (.struct gs) w:=fun w=>by simp [Go.underlying,hgs]
    split at h
    ·exact h.elim
    ·rename_i n hn
     have hpl: ∀(b o:Nat) w,(Go.fieldPlace ⟨b,o,none⟩ g).run P w= .ok ⟨b,o+g.offset,none⟩ w:=fun b o w=>by
      have hs:(sizeOf g.type).run P w= .ok (n+1) w:=by rw [htf.sizeOf,hn]
      simp only [Go.fieldPlace,Sem.run_bind,hs,Result.andThen_ok,Nat.add_one_ne_zero,ea,dL,Sem.run_pure]
     split at h
     ·rename_i id o' hx
      refine cD.pure h (gY.pure fun ρ T a w hr=> ?_)
      have h1:=hr x (by simp [ho,Op.operands])
      rw [hx] at h1
      obtain ⟨b,h2,h3⟩:=h1
      refine ⟨.pointer (some ⟨b,o'+g.offset,none⟩), ?_,b,h2,rfl⟩
      simp [execOp,ho,h3,Instr.fieldAt,hu,hg,Instr.sureAddr,hpl]
     ·rename_i id i' sz o' hx
      refine cD.pure h (gY.pure fun ρ T a w hr=> ?_)
      have h1:=hr x (by simp [ho,Op.operands])
      rw [hx] at h1
      obtain ⟨b,h2,h3⟩:=h1
      refine ⟨.pointer (some ⟨b,i'*sz+o'+g.offset,none⟩), ?_,b,h2,by rw [Nat.add_assoc]⟩
      simp [execOp,ho,h3,Instr.fieldAt,hu,hg,Instr.sureAddr,hpl]
     ·rename_i cs hx
      refine cD.pure h (gY.pure fun ρ T a w hr=> ?_)
      have h1:=hr x (by simp [ho,Op.operands])
      rw [hx] at h1
      obtain ⟨b,off,h2,h3,h4,h5⟩:=h1
      refine ⟨.pointer (some ⟨b,off+g.offset,none⟩), ?_,b,_,rfl,h3,h4,GL _ h5⟩
      simp [execOp,ho,h2,Instr.fieldAt,hu,hg,Instr.sureAddr,hpl]
     ·exact h.elim
   ·exact h.elim
  ·exact h.elim
theorem F1 {env:Env} (he:env.tt=tt) {t:TypeId} {x i:Operand} (ho:o.op= .indexAddr t x i)
  (h:xW env t (eval st.tmps x) (eval st.tmps i) fun v=>K v [] st.nxt [] []):cD P st o K:=by
 unfold xW at h
 rw [he] at h
 split at h
 ·rename_i ti j n ht hi
  split at h
  ·rename_i len e hk
   split at h
   ·rename_i te hte
    split at h
    ·rename_i id off hx
     obtain ⟨hb,h⟩:=If.elim h
     simp only [af,ak] at hb
     refine cD.pure h (gY.pure fun ρ T a w hr=> ?_)
     have h1:=hr x (by simp [ho,Op.operands])
     have h2:=hr i (by simp [ho,Op.operands])
     rw [hx] at h1;rw [hi] at h2
     obtain ⟨b,h3,h4⟩:=h1
     have hu: ∀w,(Go.underlying t).run P w= .ok (.array len e) w:=fun w=>by simp [Go.underlying,i2 (htt _ _ ht) hk]
     refine ⟨.pointer (some ⟨b,off+n.toNat*te.size,none⟩), ?_,b,h3,rfl⟩
     simp [execOp,ho,h4,h2.1,Instr.indexAt,asIntOf,hu,Instr.sureAddr,hb,(htt _ _ hte).sizeOf,dL]
    ·exact h.elim
   ·exact h.elim
  ·rename_i e hk
   split at h
   ·rename_i te hte
    have hu: ∀w,(Go.underlying t).run P w= .ok (.slice e) w:=fun w=>by simp [Go.underlying,cK (htt _ _ ht) hk]
    split at h
    ·rename_i len s g hx
     split at h
     ·rename_i hs
      obtain ⟨hb,h⟩:=If.elim h
      simp only [af,ak] at hb
      have hs':=ai hs
      refine cD.pure h (gY.pure fun ρ T a w hr=> ?_)
      have h1:=hr x (by simp [ho,Op.operands])
      have h2:=hr i (by simp [ho,Op.operands])
      rw [hx] at h1;rw [hi] at h2
      obtain ⟨ad,c,h3,h4,h5⟩:=h1
      obtain ⟨b,off,rfl,h6,h7,h8⟩:=h5 (by omega)
      refine ⟨.pointer (some ⟨b,off+n.toNat*te.size,none⟩), ?_,b,_,rfl,h6,h7, ?_⟩
      ·simp [execOp,ho,h3,h2.1,Instr.indexAt,asIntOf,hu,hb,(htt _ _ hte).sizeOf,dL]
      ·have:=h8 n.toNat (by omega)
       rw [hs'] at this
       exact this
     ·exact h.elim
    ·rename_i id off len c hx
     obtain ⟨hb,h⟩:=If.elim h
     simp only [af,ak] at hb
     refine cD.pure h (gY.pure fun ρ T a w hr=> ?_)
     have h1:=hr x (by simp [ho,Op.operands])
     have h2:=hr i (by simp [ho,Op.operands])
     rw [hx] at h1;rw [hi] at h2
     obtain ⟨⟨b,h3,h4⟩,_⟩:=h1
     refine ⟨.pointer (some ⟨b,off+n.toNat*te.size,none⟩), ?_,b,h3,rfl⟩
     simp [execOp,ho,h4,h2.1,Instr.indexAt,asIntOf,hu,hb,(htt _ _ hte).sizeOf,dL]
    ·rename_i id off sz len hx
     cases hs:Nat.beq sz te.size with
     |false=>rw [hs] at h;exact h.elim
     |true=>
     rw [hs] at h
     obtain ⟨hb,h⟩:=If.elim (show If _ _ from h)
     simp only [af,ak] at hb
     have hs':=ai hs
     refine cD.pure h (gY.pure fun ρ T a w hr=> ?_)
     have h1:=hr x (by simp [ho,Op.operands])
     have h2:=hr i (by simp [ho,Op.operands])
     rw [hx] at h1;rw [hi] at h2
     obtain ⟨b,c,h3,h4,_⟩:=h1
     refine ⟨.pointer (some ⟨b,off*sz+n.toNat*te.size,none⟩), ?_,b,h3,by rw [bp,Nat.add_zero,hs']⟩
     simp [execOp,ho,h4,h2.1,Instr.indexAt,asIntOf,hu,hb,(htt _ _ hte).sizeOf,dL]
    ·exact h.elim
   ·exact h.elim
  ·exact h.elim
 ·exact h.elim
omit htt in
theorem zS{ti:TI}{ρ:aL}{T:Nat->Prop}{w:World}{cs:List SV}{x:Value}{v:SV}(h:fN ti cs=some v)(hr:BH ti ρ T w cs x):rel ρ T w v x:=by
 unfold fN at h
 rcases hr with ⟨hk,a,rfl,ha⟩|⟨hk,u,rfl,hu⟩
 ·rw [hk] at h
  simp only [ar] at h
  cases hb:Nat.beq cs.length ti.size<;>rw [hb] at h<;>cases h
  exact ⟨a,rfl,ha⟩
 ·rw [hk] at h
  cases h
  exact hu
omit htt in
theorem xL{ti:TI}{cs:List SV}{v:SV}(h:fN ti cs=some v):isAgg ti.kind=true\/ ∃u,cs=[u]:=by
 unfold fN at h
 cases hk:isAgg ti.kind with
 |true=>exact .inl rfl
 |false=>
  rw [hk] at h
  simp only [ap] at h
  split at h
  ·exact .inr ⟨_,rfl⟩
  ·cases h
theorem S0 {env:Env} (he:env.tt=tt) {t:TypeId} {x:Operand} {f:Nat} (ho:o.op= .field t x f)
  (h:R9 env t (eval st.tmps x) f fun v=>K v [] st.nxt [] []):cD P st o K:=by
 unfold R9 at h
 rw [he] at h
 split at h
 ·rename_i ti cs ht hx
  split at h
  ·rename_i fs hk
   split at h
   ·rename_i off u hf
    split at h
    ·rename_i tu htu
     split at h
     ·rename_i v hv
      obtain ⟨gs,hgs,rfl,_⟩:=kG (htt _ _ ht) hk
      rw [fm] at hf
      cases hg:gs.toList[f]? with
      |none=>rw [hg] at hf;cases hf
      |some g=>
       rw [hg] at hf
       cases hf
       refine cD.pure h (gY.pure fun ρ T a w hr=> ?_)
       have h1:=hr x (by simp [ho,Op.operands])
       rw [hx] at h1
       obtain ⟨c,h2,h3⟩:=h1
       obtain ⟨y,h4,h5⟩:=wS (w:=w) (htt _ _ htu) h3 g.offset (xL hv)
       have hu: ∀w,(Go.underlying t).run P w= .ok (.struct gs) w:=fun w=>by simp [Go.underlying,hgs]
       have hg':gs[f]? =some g:=by simpa using hg
       refine ⟨y, ?_,zS hv h5⟩
       simp [execOp,ho,h2,Instr.field,hu,hg',asAgg,h4]
     ·exact h.elim
    ·exact h.elim
   ·exact h.elim
  ·exact h.elim
 ·exact h.elim
theorem T7 {env:Env} (he:env.tt=tt) {t:TypeId} {x i:Operand} (ho:o.op= .index t x i)
  (h:UW env t (eval st.tmps x) (eval st.tmps i) fun v=>K v [] st.nxt [] []):cD P st o K:=by
 unfold UW at h
 rw [he] at h
 split at h
 ·rename_i ti j n ht hi
  split at h
  ·rename_i len e cs hk hx
   split at h
   ·rename_i te hte
    obtain ⟨hb,h⟩:=If.elim h
    simp only [af,ak] at hb
    split at h
    ·rename_i v hv
     refine cD.pure h (gY.pure fun ρ T a w hr=> ?_)
     have h1:=hr x (by simp [ho,Op.operands])
     have h2:=hr i (by simp [ho,Op.operands])
     rw [hx] at h1;rw [hi] at h2
     obtain ⟨c,h3,h4⟩:=h1
     obtain ⟨y,h5,h6⟩:=wS (w:=w) (htt _ _ hte) h4 (n.toNat*te.size) (xL hv)
     have hu: ∀w,(Go.underlying t).run P w= .ok (.array len e) w:=fun w=>by simp [Go.underlying,i2 (htt _ _ ht) hk]
     refine ⟨y, ?_,zS hv h6⟩
     simp [execOp,ho,h3,h2.1,Instr.index,asIntOf,hu,hb,(htt _ _ hte).sizeOf,h5]
    ·exact h.elim
   ·exact h.elim
  ·rename_i s hk hx
   obtain ⟨hb,h⟩:=If.elim h
   simp only [af,ak] at hb
   refine cD.pure h (gY.pure fun ρ T a w hr=> ?_)
   have h1:=hr x (by simp [ho,Op.operands])
   have h2:=hr i (by simp [ho,Op.operands])
   rw [hx] at h1;rw [hi] at h2
   have hu: ∀w,(Go.underlying t).run P w= .ok .string w:=fun w=>by simp [Go.underlying,gL (htt _ _ ht) hk]
   have hlt:n.toNat<s.size:=by omega
   refine ⟨.int .u8 (s.data.getD n.toNat 0).toNat, ?_,rfl, ?_⟩
   ·have hs:s[n.toNat]? =some (s.data.getD n.toNat 0):=by
     rw [getElem?_pos s n.toNat hlt]
     have:n.toNat<s.data.size:=hlt
     simp only [bv,cl this,Option.getD_some]
     rfl
    simp [execOp,ho,h1.1,h2.1,Instr.index,asIntOf,hu,hb]
    rfl
   ·have:=(s.data.getD n.toNat 0).toNat_lt
    show (0:Int)<=_/\_<=(255:Int)
    omega
  ·exact h.elim
 ·exact h.elim
end
end Go.Se
namespace Go.Se
variable {P:Program}
def eJ(ρ:aL)(n b:Nat):aL:=fun i=>if i=n then some b else ρ i
theorem eS(w:World)(o:Obj):(w.alloc o).heap[w.heap.size]? =some o:=by show (w.heap.push o)[w.heap.size]? =some o;simp
theorem qQ{w:World}{o:Obj}{b:Nat}(h:b<w.heap.size):(w.alloc o).heap[b]? =w.heap[b]? :=by
 show (w.heap.push o)[b]? =w.heap[b]?
 rw [Array.getElem?_push_lt h,cl h]
theorem bG.alloc(T:Nat->Prop)(w:World)(o:Obj):bG T w (w.alloc o) where
 size:=by rw [World.size_alloc];omega
 same b hb _:=qQ hb
 shape b vs e f h:=⟨vs,f,by rw [qQ (bk.1 h).1];exact h,rfl⟩
 os:=rfl
 output:=rfl
 tape:=rfl
theorem gX.new {ρ:aL} {T:Nat->Prop} {w:World} {n:Nat} {cs:List SV} {vs:Array Value} {e:TypeId} {v:SV} {x:Value}
  (_hρ: ∀id b,ρ id=some b->b<w.heap.size) (hn:ρ n=none) (hc:aX ρ T w cs vs.toList)
  (hv:rel (eJ ρ n w.heap.size) (fun b=>T b\/b=w.heap.size) (w.alloc (.cells vs e)) v x):
  gX ρ T w n (n+1) v [(n,some (.cells e cs))] [] (eJ ρ n w.heap.size) (fun b=>T b\/b=w.heap.size) (w.alloc (.cells vs e)) x where
 names id b h:=by
  unfold eJ
  rw [if_neg (by rintro rfl;rw [hn] at h;cases h)];exact h
 only id b h:=by
  unfold eJ at h
  split at h
  ·right;omega
  ·exact .inl h
 val:=hv
 turned id sb h:=by
  simp only [aq,bn,an] at h
  obtain ⟨rfl,rfl⟩:=h
  refine ⟨w.heap.size,by simp [eJ],.inr rfl,vs,eS _ _, ?_⟩
  refine bB ?_ ?_ (bG.alloc T w _) _ _ hc
  ·intro i b h
   unfold eJ
   rw [if_neg (by rintro rfl;rw [hn] at h;cases h)];exact h
  ·intro b hb h
   rcases h with h|h
   ·exact h
   ·omega
 keys id o h:=by
  simp only [aq,bn] at h
  right;omega
 cover _ h:=by cases h
 fresh id b h1 h2 h:=by
  left
  obtain rfl:id=n:=by omega
  simp [eJ] at h
  omega
 inj i j b h1 h2 h3 h4 _ _:=by omega
 grow:=bG.alloc _ w _
 tback b hb h:=by
  rcases h with h|h
  ·exact h
  ·omega
 below id b h1 h2 h:=by
  obtain rfl:id=n:=by omega
  simp [eJ] at h
  rw [World.size_alloc];omega
 tkeep b _ h:= .inl (.inl h)
section
variable {st:St} {o:Oper} {K:KV} {env:Env} (htt: ∀t ti,env.tt t=some ti->gJ P t ti)
include htt
theorem RU {t:TypeId} {ti:TI} (ho:o.op= .alloc t) (ht:env.tt t=some ti)
  (h:K (.ptr st.nxt 0) [(st.nxt,some (.cells t ti.zero))] (st.nxt+1) [] []):cD P st o K:=by
 refine ⟨_,_,_,_,_,h,Nat.le_succ _,by simp,jF.one,by simp,fun ρ T a w next Q hx _ _ hρ hn hnext=> ?_⟩
 obtain ⟨z,hz,hzc⟩:=(htt _ _ ht).zero (w:=w)
 have hrun:(execOp a.eval o).run P w= .ok (.value (.pointer (some ⟨w.heap.size,0,none⟩))) (w.alloc (.cells z.cells t)):=by
  simp [execOp,ho,Instr.alloc,hz,newVar,newRow]
 refine bR hrun (hnext _ _ _ _ (gX.new hρ (hn _ (av _) (Nat.lt_succ_self _)) (cZ ρ T w _ _ hzc) ?_))
 exact ⟨_,by simp [eJ],rfl⟩
omit htt in
theorem oH{ρ:aL}{T:Nat->Prop}{w:World}{v:SV}{x:Value}(h:rel ρ T w v x)(hv:v≠ .junk):aX ρ T w (cellsOf v) x.cells.toList:=by
 have one: ∀u:SV,rel ρ T w u x->x.cells= #[x]->aX ρ T w [u] x.cells.toList:=fun u hu hx=>by rw [hx];exact ⟨x,[],rfl,hu,rfl⟩
 cases v with
 |junk=>exact absurd rfl hv
 |agg cs=>obtain ⟨a,rfl,ha⟩:=h;exact ha
 |int k n=>exact one _ h (by rw [h.1];rfl)
 |bool b=>exact one _ h (by have h':x= .bool b:=h;rw [h'];rfl)
 |str s=>exact one _ h (by rw [h.1];rfl)
 |nilp=>exact one _ h (by have h':x= .pointer none:=h;rw [h'];rfl)
 |ptr id off=>exact one _ h (by obtain ⟨b,_,rfl⟩:=h;rfl)
 |eptr id i st o=>exact one _ h (by obtain ⟨b,_,rfl⟩:=h;rfl)
 |rptr cs=>exact one _ h (by obtain ⟨b,o,rfl,_⟩:=h;rfl)
 |fn f a b=>exact one _ h (by obtain ⟨c,d,rfl,_⟩:=h;rfl)
 |nilfn=>exact one _ h (by have h':x= .nilFunc:=h;rw [h'];rfl)
 |tup vs=>exact one _ h (by obtain ⟨a,rfl,_⟩:=h;rfl)
 |nils=>exact one _ h (by have h':x= .slice none 0 0:=h;rw [h'];rfl)
 |emp=>exact one _ h (by obtain ⟨b,c,rfl⟩:=h;rfl)
 |arr a b c d=>exact one _ h (by obtain ⟨⟨b,_,rfl⟩,_⟩:=h;rfl)
 |own a o b c=>exact one _ h (by obtain ⟨b,c,_,rfl,_⟩:=h;rfl)
 |ro a b c=>exact one _ h (by obtain ⟨b,c,rfl,_⟩:=h;rfl)
 |nilI=>exact one _ h (by have h':x= .nilIface:=h;rw [h'];rfl)
 |iface t v=>exact one _ h (by obtain ⟨y,rfl,_⟩:=h;rfl)
 |yld id=>exact one _ h (by obtain ⟨b,_,rfl⟩:=h;rfl)
omit htt in
theorem SW{ρ:aL}{T:Nat->Prop}{w:World}{v:SV}{x:Value}(h:rel ρ T w v x)(hv:bE v=true):x.oneCell'=true:=by
 cases v with
 |junk=>cases hv
 |agg cs=>cases hv
 |tup cs=>cases hv
 |int k n=>rw [h.1];rfl
 |bool b=>have h':x= .bool b:=h;rw [h'];rfl
 |str s=>rw [h.1];rfl
 |nilp=>have h':x= .pointer none:=h;rw [h'];rfl
 |ptr id off=>obtain ⟨b,_,rfl⟩:=h;rfl
 |eptr id i st o=>obtain ⟨b,_,rfl⟩:=h;rfl
 |rptr cs=>obtain ⟨b,o,rfl,_⟩:=h;rfl
 |fn f a b=>obtain ⟨c,d,rfl,_⟩:=h;rfl
 |nilfn=>have h':x= .nilFunc:=h;rw [h'];rfl
 |nils=>have h':x= .slice none 0 0:=h;rw [h'];rfl
 |emp=>obtain ⟨b,c,rfl⟩:=h;rfl
 |arr a b c d=>obtain ⟨⟨b,_,rfl⟩,_⟩:=h;rfl
 |own a o b c=>obtain ⟨b,c,_,rfl,_⟩:=h;rfl
 |ro a b c=>obtain ⟨b,c,rfl,_⟩:=h;rfl
 |nilI=>have h':x= .nilIface:=h;rw [h'];rfl
 |iface t v=>obtain ⟨y,rfl,_⟩:=h;rfl
 |yld id=>obtain ⟨b,_,rfl⟩:=h;rfl
omit htt in
theorem i0{ρ:aL}{T:Nat->Prop}{w:World}: ∀{l:List SV} {m:List Value},aX ρ T w l m->l.all bE=true-> ∀x∈m,x.oneCell'=true
 | [],m,h,_,x,hx=>by rw [h] at hx;cases hx
 |a::l,m,⟨v,r,h1,h2,h3⟩,ha,x,hx=>by
  simp only [List.all_cons,af] at ha
  rw [h1] at hx
  rcases cb.1 hx with rfl|hx
  ·exact SW h2 ha.1
  ·exact i0 h3 ha.2 x hx
omit htt in
theorem aC7 {t:TypeId} {x:Operand} (ho:o.op= .box t x) (hx:eval st.tmps x≠ .junk)
  (h:K (.ptr st.nxt 0) [(st.nxt,some (.cells t (cellsOf (eval st.tmps x))))] (st.nxt+1) [] []):cD P st o K:=by
 refine ⟨_,_,_,_,_,h,Nat.le_succ _,by simp,jF.one,by simp,fun ρ T a w next Q hr _ _ hρ hn hnext=> ?_⟩
 have hrun:(execOp a.eval o).run P w= .ok (.value (.pointer (some ⟨w.heap.size,0,none⟩))) (w.alloc (.cells (a.eval x).cells t)):=by
  simp [execOp,ho,Instr.box,newVar,newRow]
 refine bR hrun (hnext _ _ _ _ (gX.new hρ (hn _ (av _) (Nat.lt_succ_self _)) (oH (hr x (by simp [ho,Op.operands])) hx) ?_))
 exact ⟨_,by simp [eJ],rfl⟩
omit htt in
theorem WI{cs:List SV}{off n:Nat}(h:(cut cs off n).length=n)(hn:0<n):off+n<=cs.length:=by
 unfold cut at h
 rw [du,dc] at h
 omega
omit htt in
theorem BS {w:World} {b off:Nat} {vs:Array Value} {e:TypeId} {f:Nat×Nat} {t:TypeId} {ti:TI} (ht:gJ P t ti) (hb:w.heap[b]? =some (.cells vs e f))
  {ρ:aL} {T:Nat->Prop} {cs:List SV} (hc:aX ρ T w cs vs.toList) {v:SV} (hv:fN ti (cut cs off ti.size)=some v):
  ∃x,(loadVar t ⟨b,off,none⟩).run P w= .ok x w/\rel ρ T w v x:=by
 have hr:=jI off ti.size hc
 unfold loadVar
 rw [Sem.run_bind,ht.isAgg]
 unfold fN at hv
 cases hk:isAgg ti.kind with
 |true=>
  rw [hk] at hv
  simp only [ar] at hv
  cases hl:Nat.beq (cut cs off ti.size).length ti.size with
  |false=>rw [hl] at hv;cases hv
  |true=>
   rw [hl] at hv
   cases hv
   have hl':=ai hl
   refine ⟨.agg ((vs.toList.drop off).take ti.size).toArray, ?_,_,rfl,by simpa using hr⟩
   simp only [Result.andThen_ok,if_true,Sem.run_bind,ht.sizeOf]
   by_cases h0:ti.size=0
   ·rw [h0];simp [loadCells,loadCellsFrom]
   ·have:=WI hl' (by omega)
    have hlen:cs.length=vs.size:=(bV hc).trans (by simp)
    rw [rN hb (by omega)]
    simp
 |false=>
  rw [hk] at hv
  simp only [ap] at hv
  split at hv
  ·rename_i c hcut
   cases hv
   rw [hcut] at hr
   obtain ⟨x,r,h2,h3,_⟩:=hr
   refine ⟨x, ?_,h3⟩
   have h5:((vs.toList.drop off).take ti.size)[0]? =some x:=by rw [h2];rfl
   rw [br] at h5
   split at h5
   ·rw [bu] at h5
    have h6:vs[off]? =some x:=by simpa using h5
    simp only [Result.andThen_ok,bz,ea,run_load,fF hb,h6]
   ·cases h5
  ·cases hv
omit htt in
theorem uF{T:Nat->Prop}{w:World}{b off:Nat}: ∀(cs:List SV) (i:Nat) (acc:Array Value),fJ T w cs b (off+i)->
  ∃m:List Value,(loadCellsFrom ⟨b,off,none⟩ i cs.length acc).run P w= .ok (acc++m.toArray) w/\aX (fun _=>none) T w cs m
 | [],i,acc,_=>⟨[],by simp [loadCellsFrom],rfl⟩
 |c::cs,i,acc,⟨⟨v,h1,h2⟩,h3⟩=>by
  obtain ⟨m,h4,h5⟩:=uF cs (i+1) (acc.push v) (by rw [show off+(i+1)=off+i+1 by omega];exact h3)
  refine ⟨v::m, ?_,v,m,rfl,h2,h5⟩
  simp only [az,loadCellsFrom,Sem.run_bind,dL,run_load,h1,Result.andThen_ok,h4]
  simp
omit htt in
theorem OD{ρ:aL}{T:Nat->Prop}{w:World}{l:List SV}{m:List Value}(h:aX (fun _=>none) T w l m):aX ρ T w l m:=
 bB (fun _ _ h=>by cases h) (fun _ _ h=>h) (bG.refl T w) _ _ h
omit htt in
theorem FK{T:Nat->Prop}{w:World}: ∀(n:Nat) {cs:List SV} {b o:Nat},fJ T w cs b o->fJ T w (cs.take n) b o
 |0,_,_,_,_=>by simp [fJ]
 |n+1,[],_,_,_=>by simp [fJ]
 |n+1,c::cs,b,o,⟨h1,h2⟩=>⟨h1,FK n h2⟩
omit htt in
theorem xH {T:Nat->Prop} {w:World} {b off:Nat} {t:TypeId} {ti:TI} (ht:gJ P t ti) {cs:List SV} (hc:fJ T w cs b off) {ρ:aL} {v:SV}
  (hv:fN ti (cs.take ti.size)=some v): ∃x,(loadVar t ⟨b,off,none⟩).run P w= .ok x w/\rel ρ T w v x:=by
 have hr:=FK ti.size hc
 unfold loadVar
 rw [Sem.run_bind,ht.isAgg]
 unfold fN at hv
 cases hk:isAgg ti.kind with
 |true=>
  rw [hk] at hv
  simp only [ar] at hv
  cases hl:Nat.beq (cs.take ti.size).length ti.size with
  |false=>rw [hl] at hv;cases hv
  |true=>
   rw [hl] at hv
   cases hv
   have hl':=ai hl
   obtain ⟨m,h1,h2⟩:=uF (P:=P) (cs.take ti.size) 0 #[] hr
   rw [hl'] at h1
   refine ⟨.agg m.toArray, ?_,_,rfl,OD h2⟩
   simp only [Result.andThen_ok,if_true,Sem.run_bind,ht.sizeOf,loadCells,h1]
   simp
 |false=>
  rw [hk] at hv
  simp only [ap] at hv
  split at hv
  ·rename_i c hcut
   cases hv
   rw [hcut] at hr
   obtain ⟨⟨x,h1,h2⟩,_⟩:=hr
   refine ⟨x, ?_,iW (fun _ _ h=>by cases h) (fun _ _ h=>h) (bG.refl T w) _ _ h2⟩
   simp only [Result.andThen_ok,bz,ea,run_load,h1]
  ·cases hv
omit htt in
theorem KN {w:World} {b off:Nat} {vs:Array Value} {e:TypeId} {f:Nat×Nat} {t:TypeId} {ti:TI} (ht:gJ P t ti) (hb:w.heap[b]? =some (.cells vs e f))
  {ρ:aL} {T:Nat->Prop} {cs:List SV} {m r:List Value} (hm:vs.toList=m++r) (hc:aX ρ T w cs m) (hfit:off+ti.size<=cs.length) (hpos:0<ti.size) {v:SV} (hv:fN ti (cut cs off ti.size)=some v):
  ∃x,(loadVar t ⟨b,off,none⟩).run P w= .ok x w/\rel ρ T w v x:=by
 have hr:=jI off ti.size hc
 have hml:=bV hc
 have hvl:vs.toList.length=vs.size:=by simp
 have hpart:(vs.toList.drop off).take ti.size=(m.drop off).take ti.size:=by
  rw [hm,di (by omega),da (by rw [dc];omega)]
 have hsz:off+ti.size<=vs.size:=by
  have:=congrArg List.length hm
  rw [au] at this
  omega
 unfold loadVar
 rw [Sem.run_bind,ht.isAgg]
 unfold fN at hv
 cases hk:isAgg ti.kind with
 |true=>
  rw [hk] at hv
  simp only [ar] at hv
  cases hl:Nat.beq (cut cs off ti.size).length ti.size with
  |false=>rw [hl] at hv;cases hv
  |true=>
   rw [hl] at hv
   cases hv
   refine ⟨.agg ((vs.toList.drop off).take ti.size).toArray, ?_,_,rfl,by rw [hpart];simpa using hr⟩
   simp only [Result.andThen_ok,if_true,Sem.run_bind,ht.sizeOf]
   rw [rN hb hsz]
   simp
 |false=>
  rw [hk] at hv
  simp only [ap] at hv
  split at hv
  ·rename_i c hcut
   cases hv
   rw [hcut] at hr
   obtain ⟨x,r',h2,h3,_⟩:=hr
   refine ⟨x, ?_,h3⟩
   have h5:((vs.toList.drop off).take ti.size)[0]? =some x:=by rw [hpart,h2];rfl
   rw [br,if_pos hpos,bu] at h5
   have h6:vs[off]? =some x:=by simpa using h5
   simp only [Result.andThen_ok,bz,ea,run_load,fF hb,h6]
  ·cases hv
def At(id off:Nat)(v:SV):Prop:= ∀(ρ:aL) (T:Nat->Prop) (w:World) (y:Value),rel ρ T w v y-> ∃b,ρ id=some b/\y= .pointer (some ⟨b,off,none⟩)
theorem FB {t:TypeId} {x:Operand} (ho:o.op= .load t x) {ti:TI} (ht:env.tt t=some ti) {id off:Nat} (hx:At id off (eval st.tmps x)) {e:TypeId} {cs:List SV}
  (hl:aO st.store id=some (.cells e cs)) {v:SV} (hv:fN ti (cut cs off ti.size)=some v) (h:K v [] st.nxt [id] []):cD P st o K:=by
 refine ⟨v,[],st.nxt,[id],[],h,av _, ?_,jF.nil,by simp,fun ρ T a w next Q hr hb _ _ _ hnext=> ?_⟩
 ·intro i hi
  simp only [aq,cq,fy] at hi
  subst hi;exact ⟨_,hl⟩
 ·obtain ⟨b,h2,h3⟩:=hx _ _ _ _ (hr x (by simp [ho,Op.operands]))
  obtain ⟨sb,b',h4,h5,_,h6⟩:=hb id (.inl (by simp))
  rw [hl] at h4;cases h4
  rw [h2] at h5;cases h5
  obtain ⟨vs,h7,h8⟩:=h6
  obtain ⟨y,h9,h10⟩:=BS (htt _ _ ht) h7 h8 hv
  exact bR (by simp [execOp,ho,h3,Instr.loadAt,Instr.sureAddr,h9]) (hnext y w ρ T (gX.pure h10))
theorem FD {t:TypeId} {x:Operand} (ho:o.op= .load t x) {ti:TI} (ht:env.tt t=some ti) {id off:Nat} (hx:At id off (eval st.tmps x)) {e:TypeId} {cs:List SV}
  (hl:aO st.store id=some (.lst e cs)) (hg:Nat.blt 0 ti.size=true/\Nat.beq (cut cs off ti.size).length ti.size=true) {v:SV} (hv:fN ti (cut cs off ti.size)=some v) (h:K v [] st.nxt [id] []):cD P st o K:=by
 refine ⟨v,[],st.nxt,[id],[],h,av _, ?_,jF.nil,by simp,fun ρ T a w next Q hr hb _ _ _ hnext=> ?_⟩
 ·intro i hi
  simp only [aq,cq,fy] at hi
  subst hi;exact ⟨_,hl⟩
 ·obtain ⟨b,h2,h3⟩:=hx _ _ _ _ (hr x (by simp [ho,Op.operands]))
  obtain ⟨sb,b',h4,h5,_,h6⟩:=hb id (.inl (by simp))
  rw [hl] at h4;cases h4
  rw [h2] at h5;cases h5
  obtain ⟨vs,h7,m,r,h8,h9⟩:=h6
  have hfit:=WI (ai hg.2) (cd hg.1)
  obtain ⟨y,h10,h11⟩:=KN (htt _ _ ht) h7 h8 h9 hfit (cd hg.1) hv
  exact bR (by simp [execOp,ho,h3,Instr.loadAt,Instr.sureAddr,h10]) (hnext y w ρ T (gX.pure h11))
omit htt in
theorem eV{T:Nat->Prop}{w:World}{b:Nat}: ∀{xs:List SV} {cs:List Value} {o:Nat},aX (fun _=>none) T w xs cs->(∀j c,cs[j]? =some c->w.cell? ⟨b,o+j,none⟩=some c)->fJ T w xs b o
 | [],cs,o,_,_=>trivial
 |x::xs,cs,o,⟨v,r,h1,h2,h3⟩,hc=>by
  subst h1
  refine ⟨⟨v,hc 0 v (by simp),h2⟩,eV h3 fun j c hj=> ?_⟩
  have:=hc (j+1) c (by simpa using hj)
  rw [show o+1+j=o+(j+1) by omega];exact this
omit htt in
theorem B8{T:Nat->Prop}{w:World}{b:Nat}: ∀(n:Nat) {xs:List SV} {o:Nat},fJ T w xs b o->fJ T w (xs.drop n) b (o+n)
 |0,xs,o,h=>h
 |n+1,[],o,h=>trivial
 |n+1,x::xs,o,⟨_,h⟩=>by
  rw [List.drop_succ_cons,show o+(n+1)=o+1+n by omega]
  exact B8 n h
theorem S5 {t:TypeId} {x:Operand} (ho:o.op= .load t x) {ti:TI} (ht:env.tt t=some ti) {id i sz q:Nat} (hx:At id (i*sz+q) (eval st.tmps x)) {e:TypeId} {len:Nat} {g:Nat->List SV}
  (hl:aO st.store id=some (.row e sz len g)) (hi:i<len) {v:SV} (hv:fN ti (cut (g i) q ti.size)=some v) (h:K v [] st.nxt [id] []):cD P st o K:=by
 refine ⟨v,[],st.nxt,[id],[],h,av _, ?_,jF.nil,by simp,fun ρ T a w next Q hr hb _ _ _ hnext=> ?_⟩
 ·intro i hi
  simp only [aq,cq,fy] at hi
  subst hi;exact ⟨_,hl⟩
 ·obtain ⟨b,h2,h3⟩:=hx _ _ _ _ (hr x (by simp [ho,Op.operands]))
  obtain ⟨sb,b',h4,h5,_,h6⟩:=hb id (.inl (by simp))
  rw [hl] at h4;cases h4
  rw [h2] at h5;cases h5
  obtain ⟨vs,h7,h8,h9⟩:=h6
  have hat:fJ T w (g i) b (i*sz):=eV (h9 i hi) fun j c hj=>by
   rw [fF h7]
   rw [br] at hj
   split at hj
   ·rw [bu] at hj
    simpa using hj
   ·cases hj
  obtain ⟨y,h10,h11⟩:=xH (ρ:=ρ) (htt _ _ ht) (B8 q hat) hv
  exact bR (by simp [execOp,ho,h3,Instr.loadAt,Instr.sureAddr,h10]) (hnext y w ρ T (gX.pure h11))
theorem aBk{t:TypeId}{x:Operand}(ho:o.op= .load t x)(h:aBw env t (eval st.tmps x) st K):cD P st o K:=by
 unfold aBw at h
 split at h
 ·exact h.elim
 ·rename_i ti ht
  split at h
  ·rename_i id off hx
   have hat:At id off (eval st.tmps x):=fun ρ T w y hr=>by rw [hx] at hr;exact hr
   split at h
   ·rename_i e cs hl
    split at h
    ·rename_i v hv
     exact FB htt ho ht hat hl hv h
    ·exact h.elim
   ·rename_i e cs hl
    cases hg:Nat.blt 0 ti.size&&Nat.beq (cut cs off ti.size).length ti.size with
    |false=>rw [hg] at h;exact h.elim
    |true=>
    rw [hg] at h
    simp only [af,ar] at hg h
    split at h
    ·rename_i v hv
     exact FD htt ho ht hat hl hg hv h
    ·exact h.elim
   ·exact h.elim
  ·rename_i id i sz q hx
   have hat:At id (i*sz+q) (eval st.tmps x):=fun ρ T w y hr=>by rw [hx] at hr;exact hr
   split at h
   ·rename_i e cs hl
    split at h
    ·rename_i v hv
     exact FB htt ho ht hat hl hv h
    ·exact h.elim
   ·rename_i e cs hl
    cases hg:Nat.blt 0 ti.size&&Nat.beq (cut cs (i*sz+q) ti.size).length ti.size with
    |false=>rw [hg] at h;exact h.elim
    |true=>
    rw [hg] at h
    simp only [af,ar] at hg h
    split at h
    ·rename_i v hv
     exact FD htt ho ht hat hl hg hv h
    ·exact h.elim
   ·rename_i e sz' len g hl
    cases hg:Nat.beq sz' sz&&(Nat.blt 0 ti.size&&Nat.beq (cut (g i) q ti.size).length ti.size) with
    |false=>rw [hg] at h;exact h.elim
    |true=>
    rw [hg] at h
    simp only [af,ar] at hg h
    obtain rfl:=ai hg.1
    obtain ⟨hi,h⟩:=If.elim h
    split at h
    ·rename_i v hv
     exact S5 htt ho ht hat hl (aa hi) hv h
    ·exact h.elim
   ·exact h.elim
  ·rename_i cs hx
   split at h
   ·rename_i v hv
    refine cD.pure h (gY.pure fun ρ T a w hr=> ?_)
    have h1:=hr x (by simp [ho,Op.operands])
    rw [hx] at h1
    obtain ⟨b,off,h2,h3,h4,h5⟩:=h1
    obtain ⟨y,h9,h10⟩:=xH (ρ:=ρ) (htt _ _ ht) h5 hv
    exact ⟨y,by simp [execOp,ho,h2,Instr.loadAt,Instr.sureAddr,h9],h10⟩
   ·exact h.elim
  ·exact h.elim
omit htt in
theorem XJ{ρ:aL}{T:Nat->Prop}{w:World}: ∀{cs vs cs':List SV} {m n:List Value},oK.over cs vs=some cs'->aX ρ T w cs m->aX ρ T w vs n->
  vs.length<=cs.length/\aX ρ T w cs' (n++m.drop n.length)
 |cs,[],cs',m,n,h,hc,hv=>by
  cases cs<;>(simp only [oK.over,an] at h;subst h;rw [hv];exact ⟨by simp,by simpa using hc⟩)
 | [],v::vs,cs',m,n,h,hc,hv=>by simp [oK.over] at h
 |c::cs,v::vs,cs',m,n,h,⟨x,r,h1,h2,h3⟩,⟨y,q,h4,h5,h6⟩=>by
  simp only [oK.over] at h
  split at h
  ·rename_i r' hr
   cases h
   obtain ⟨h7,h8⟩:=XJ hr h3 h6
   rw [h1,h4]
   exact ⟨by simp;omega,y,_,rfl,h5,by simpa using h8⟩
  ·cases h
omit htt in
theorem pU{ρ:aL}{T:Nat->Prop}{w:World}: ∀{cs:List SV} (off:Nat) {vs cs':List SV} {m n:List Value},oK cs off vs=some cs'->aX ρ T w cs m->aX ρ T w vs n->
  off+vs.length<=cs.length/\aX ρ T w cs' (bI m off n)
 |cs,0,vs,cs',m,n,h,hc,hv=>by
  have h':oK.over cs vs=some cs':=by cases cs<;>exact h
  obtain ⟨h1,h2⟩:=XJ h' hc hv
  exact ⟨by omega,by simpa [bI] using h2⟩
 | [],off+1,vs,cs',m,n,h,hc,hv=>by simp [oK] at h
 |c::cs,off+1,vs,cs',m,n,h,⟨x,r,h1,h2,h3⟩,hv=>by
  simp only [oK] at h
  split at h
  ·rename_i r' hr
   cases h
   obtain ⟨h4,h5⟩:=pU off hr h3 hv
   rw [h1]
   refine ⟨by simp;omega,x,_, ?_,h2,h5⟩
   simp only [bI,List.take_succ_cons,gk]
   rw [show off+1+n.length=off+n.length+1 by omega,List.drop_succ_cons]
  ·cases h
omit htt in
theorem gV{m n:List Value}{off:Nat}(h:off+n.length<=m.length):(bI m off n).length=m.length:=by
 simp only [bI,au,du,dc];omega
omit htt in
theorem bG.put {w:World} {b:Nat} {vs:Array Value} {e:TypeId} {vs':Array Value} (hb:w.heap[b]? =some (.cells vs e (0,0))) (hs:vs'.size=vs.size)
  (T:Nat->Prop) (hT:T b):bG T w (bJ w b vs' e) where
 size:=by rw [nV];exact av _
 same c _ hn:=uW (by rintro rfl;exact hn hT)
 shape c ws f g h:=by
  by_cases hc:c=b
  ·subst hc
   rw [hb] at h
   cases h
   exact ⟨vs',_,dY (bk.1 hb).1,hs⟩
  ·exact ⟨ws,g,by rw [uW hc];exact h,rfl⟩
 os:=rfl
 output:=rfl
 tape:=rfl
theorem CG {t:TypeId} {x y:Operand} (ho:o.op= .store t x y) {ti:TI} (ht:env.tt t=some ti) {id off:Nat} (hx:At id off (eval st.tmps x)) {sb sb':SB}
  (hl:aO st.store id=some sb) (hb1:Nat.beq (cellsOf (eval st.tmps y)).length ti.size=true/\(cellsOf (eval st.tmps y)).all bE=true)
  (hput: ∀(ρ:aL) (T:Nat->Prop) (w:World) (b:Nat) (n:List Value),fV ρ T w sb b->aX ρ T w (cellsOf (eval st.tmps y)) n-> ∃(vs:Array Value) (e:TypeId),w.heap[b]? =some (.cells vs e (0,0))/\
   off+n.length<=vs.size/\ ∀w',w'.heap[b]? =some (.cells (bI vs.toList off n).toArray e (0,0))->bG T w w'->fV ρ T w' sb' b)
  (h:K (.tup []) [(id,some sb')] st.nxt [] [id]):cD P st o K:=by
 refine ⟨_,_,_,_,_,h,av _, ?_,jF.one,by simp,fun ρ T a w next Q hr hb _ _ _ hnext=> ?_⟩
 ·intro i hi
  simp only [aq,cq,false_or] at hi
  subst hi;exact ⟨_,hl⟩
 ·have hy:=hr y (by simp [ho,Op.operands])
  obtain ⟨b,h2,h3⟩:=hx _ _ _ _ (hr x (by simp [ho,Op.operands]))
  obtain ⟨sb1,b',h4,h5,hTb,h6⟩:=hb id (.inr (by simp))
  rw [hl] at h4;cases h4
  rw [h2] at h5;cases h5
  have hj:eval st.tmps y≠ .junk:=by
   intro hj
   rw [hj] at hb1
   simp [cellsOf,bE] at hb1
  have hcell:=oH hy hj
  obtain ⟨vs,e,h7,hfit,h10⟩:=hput ρ T w b _ h6 hcell
  have hl2:=bV hcell
  have hlen:=ai hb1.1
  have hrun:(execOp a.eval o).run P w= .ok .skip (bJ w b (bI vs.toList off (a.eval y).cells.toList).toArray e):=by
   have hsz:(a.eval y).cells.size=ti.size:=by
    rw [<- hlen,hl2];simp
   simp only [execOp,ho,h3,Instr.storeAt,Instr.sureAddr,Sem.run_bind,Sem.run_pure,Result.andThen_ok,storeVar,(htt _ _ ht).sizeOf,hsz,ne_eq,not_true_eq_false,ea]
   rw [gT (e:=e) _ 0 vs w h7 (by simpa using hfit) (i0 hcell hb1.2)]
   simp
  refine xR hrun (hnext undef _ ρ T ?_)
  have hG:bG (fun c=>c=b) w (bJ w b (bI vs.toList off (a.eval y).cells.toList).toArray e):=
   bG.put h7 (by rw [cg,gV (by simpa using hfit)];simp) _ rfl
  have hGT:bG T w (bJ w b (bI vs.toList off (a.eval y).cells.toList).toArray e):=
   hG.mono fun c _ hc=>by rw [hc];exact hTb
  exact {
   names:=fun _ _ h=>h
   only:=fun _ _ h=> .inl h
   val:=⟨#[],rfl,rfl⟩
   turned:=fun i sb hi=>by
    simp only [aq,bn,an] at hi
    obtain ⟨rfl,rfl⟩:=hi
    exact ⟨b,h2,hTb,h10 _ (dY (bk.1 h7).1) hGT⟩
   keys:=fun i ob hi=>by
    simp only [aq,bn] at hi
    left;simp [hi.1]
   cover:=fun i hi=>by obtain rfl:=aq.1 hi;exact ⟨_,aq.2 rfl⟩
   fresh:=fun i b h1 h2 _=>by omega
   inj:=fun i j b _ h1 h2 _ _ _=>by omega
   grow:=hG.mono fun c _ hc=>⟨id,by simp,by rw [hc];exact h2⟩
   tback:=fun _ _ h=>h
   below:=fun i b h1 h2 _=>by omega
   tkeep:=fun _ _ h=> .inl h}
omit htt in
theorem nJ{l m:List Value}{o k:Nat}(h:o+m.length<=l.length):(bI l o m)[k]? =if k<o then l[k]? else if k<o+m.length then m[k - o]? else l[k]? :=by
 unfold bI
 rw [bo,List.getElem?_append]
 have hlt:(l.take o).length=o:=by rw [du];omega
 rw [hlt]
 by_cases h1:k<o
 ·rw [if_pos h1,if_pos h1,br,if_pos h1]
 ·rw [if_neg h1,if_neg h1,List.getElem?_append]
  by_cases h2:k<o+m.length
  ·rw [if_pos h2,if_pos (by omega)]
  ·rw [if_neg h2,if_neg (by omega),bu]
   congr 1;omega
omit htt in
theorem aFB {ρ:aL} {T:Nat->Prop} {e:TypeId} {sz len i q:Nat} {g:Nat->List SV} {ys cs':List SV} (hi:i<len) (hfl:ids.idsL ys=[]) (hp:oK (g i) q ys=some cs')
  {w:World} {b:Nat} {n:List Value} (hB:fV ρ T w (.row e sz len g) b) (hn:aX ρ T w ys n): ∃(vs:Array Value) (e':TypeId),w.heap[b]? =some (.cells vs e' (0,0))/\
   (i*sz+q)+n.length<=vs.size/\ ∀w',w'.heap[b]? =some (.cells (bI vs.toList (i*sz+q) n).toArray e' (0,0))->bG T w w'->fV ρ T w' (.row e sz len (bK i cs' g)) b:=by
 obtain ⟨vs,h7,h8,h9⟩:=hB
 have hn0:aX (fun _=>none) T w ys n:=gO _ _ hfl hn
 obtain ⟨h1,h2⟩:=pU q hp (h9 i hi) hn0
 have hvl:vs.toList.length=vs.size:=by simp
 have hisz:(i+1)*sz<=len*sz:=bj _ (by omega)
 rw [bp,cj] at hisz
 have hl1:=bV (h9 i hi)
 rw [du,dc] at hl1
 have hl2:=bV hn0
 have hfit:(i*sz+q)+n.length<=vs.toList.length:=by omega
 refine ⟨vs,e,h7,by omega,fun w' hw hG=>⟨_,hw, ?_,fun j hj=> ?_⟩⟩
 ·rw [cg,gV hfit,hvl];exact h8
 ·have hjsz:(j+1)*sz<=len*sz:=bj _ (by omega)
  rw [bp,cj] at hjsz
  by_cases hij:j=i
  ·subst hij
   rw [show bK j cs' g j=cs' by simp [bK]]
   have hw':((bI vs.toList (j*sz+q) n).drop (j*sz)).take sz=bI ((vs.toList.drop (j*sz)).take sz) q n:=by
    apply gr
    intro k
    rw [nJ (by rw [du,dc];omega),br,bu,nJ hfit]
    simp only [br,bu]
    by_cases hk:k<sz
    ·simp only [if_pos hk]
     by_cases a1:k<q
     ·rw [if_pos (by omega),if_pos a1]
     ·rw [if_neg (by omega),if_neg a1]
      by_cases a2:k<q+n.length
      ·rw [if_pos (by omega),if_pos a2];congr 1;omega
      ·rw [if_neg (by omega),if_neg a2]
    ·simp only [if_neg hk]
     rw [if_neg (by omega),if_neg (by omega)]
   show aX (fun _=>none) T w' cs' (((bI vs.toList (j*sz+q) n).drop (j*sz)).take sz)
   rw [hw']
   exact bB (fun _ _ h=>h) (fun _ _ h=>h) hG _ _ h2
  ·rw [show bK i cs' g j=g j by simp [bK,hij]]
   have hw':((bI vs.toList (i*sz+q) n).drop (j*sz)).take sz=(vs.toList.drop (j*sz)).take sz:=by
    apply gr
    intro k
    rw [br,bu,nJ hfit,br,bu]
    by_cases hk:k<sz
    ·simp only [if_pos hk]
     rcases Nat.lt_or_gt_of_ne hij with hlt|hgt
     ·have:(j+1)*sz<=i*sz:=bj _ (by omega)
      rw [bp,cj] at this
      rw [if_pos (by omega)]
     ·have:(i+1)*sz<=j*sz:=bj _ (by omega)
      rw [bp,cj] at this
      rw [if_neg (by omega),if_neg (by omega)]
    ·simp only [if_neg hk]
   show aX (fun _=>none) T w' (g j) (((bI vs.toList (i*sz+q) n).drop (j*sz)).take sz)
   rw [hw']
   exact bB (fun _ _ h=>h) (fun _ _ h=>h) hG _ _ (h9 j hj)
omit htt in
theorem aHk {ρ:aL} {T:Nat->Prop} {e:TypeId} {off:Nat} {cs ys cs':List SV} (hp:oK cs off ys=some cs')
  {w:World} {b:Nat} {n:List Value} (hB:fV ρ T w (.lst e cs) b) (hn:aX ρ T w ys n): ∃(vs:Array Value) (e':TypeId),w.heap[b]? =some (.cells vs e' (0,0))/\
   off+n.length<=vs.size/\ ∀w',w'.heap[b]? =some (.cells (bI vs.toList off n).toArray e' (0,0))->bG T w w'->fV ρ T w' (.lst e cs') b:=by
 obtain ⟨vs,h7,m,r,hm,h8⟩:=hB
 obtain ⟨h9,h10⟩:=pU off hp h8 hn
 have hl1:=bV h8
 have hl2:=bV hn
 have hml:=congrArg List.length hm
 have hvl:vs.toList.length=vs.size:=by simp
 rw [au] at hml
 refine ⟨vs,e,h7,by omega,fun w' hw hG=>⟨_,hw,bI m off n,r, ?_,bB (fun _ _ h=>h) (fun _ _ h=>h) hG _ _ h10⟩⟩
 unfold bI
 rw [hm,da (by omega),di (by omega)]
 simp
theorem TV{t:TypeId}{x y:Operand}(ho:o.op= .store t x y)(h:VN env t (eval st.tmps x) (eval st.tmps y) st K):cD P st o K:=by
 unfold VN at h
 split at h
 ·exact h.elim
 ·rename_i ti ht
  split at h
  ·rename_i id off hx
   split at h
   ·rename_i e cs hl
    cases hb1:(Nat.beq (cellsOf (eval st.tmps y)).length ti.size&&(cellsOf (eval st.tmps y)).all bE) with
    |false=>rw [hb1] at h;exact h.elim
    |true=>
     rw [hb1] at h
     simp only [af,ar] at hb1 h
     split at h
     ·rename_i cs' hp
      refine ⟨_,_,_,_,_,h,av _, ?_,jF.one,by simp,fun ρ T a w next Q hr hb _ _ _ hnext=> ?_⟩
      ·intro i hi
       simp only [aq,cq,false_or] at hi
       subst hi;exact ⟨_,hl⟩
      ·have h1:=hr x (by simp [ho,Op.operands])
       have hy:=hr y (by simp [ho,Op.operands])
       rw [hx] at h1
       obtain ⟨b,h2,h3⟩:=h1
       obtain ⟨sb,b',h4,h5,hTb,h6⟩:=hb id (.inr (by simp))
       rw [hl] at h4;cases h4
       rw [h2] at h5;cases h5
       obtain ⟨vs,h7,h8⟩:=h6
       have hj:eval st.tmps y≠ .junk:=by
        intro hj
        rw [hj] at hb1
        simp [cellsOf,bE] at hb1
       have hcell:=oH hy hj
       obtain ⟨h9,h10⟩:=pU off hp h8 hcell
       have hl1:=bV h8
       have hl2:=bV hcell
       have hlen:=ai hb1.1
       have hfit:off+(a.eval y).cells.toList.length<=vs.size:=by
        rw [<- hl2];simp at hl1;omega
       have hrun:(execOp a.eval o).run P w= .ok .skip (bJ w b (bI vs.toList off (a.eval y).cells.toList).toArray e):=by
        have hsz:(a.eval y).cells.size=ti.size:=by
         rw [<- hlen,hl2];simp
        simp only [execOp,ho,h3,Instr.storeAt,Instr.sureAddr,Sem.run_bind,Sem.run_pure,Result.andThen_ok,storeVar,(htt _ _ ht).sizeOf,hsz,ne_eq,not_true_eq_false,ea]
        rw [gT (e:=e) _ 0 vs w h7 (by simpa using hfit) (i0 hcell hb1.2)]
        simp
       refine xR hrun (hnext undef _ ρ T ?_)
       have hG:bG (fun c=>c=b) w (bJ w b (bI vs.toList off (a.eval y).cells.toList).toArray e):=
        bG.put h7 (by rw [cg,gV (by simpa using hfit)];simp) _ rfl
       have hGT:bG T w (bJ w b (bI vs.toList off (a.eval y).cells.toList).toArray e):=
        hG.mono fun c _ hc=>by rw [hc];exact hTb
       exact {
        names:=fun _ _ h=>h
        only:=fun _ _ h=> .inl h
        val:=⟨#[],rfl,rfl⟩
        turned:=fun i sb hi=>by
         simp only [aq,bn,an] at hi
         obtain ⟨rfl,rfl⟩:=hi
         exact ⟨b,h2,hTb,_,dY (bk.1 h7).1,by
          simpa using bB (fun _ _ h=>h) (fun _ _ h=>h) hGT _ _ h10⟩
        keys:=fun i ob hi=>by
         simp only [aq,bn] at hi
         left;simp [hi.1]
        cover:=fun i hi=>by obtain rfl:=aq.1 hi;exact ⟨_,aq.2 rfl⟩
        fresh:=fun i b h1 h2 _=>by omega
        inj:=fun i j b _ h1 h2 _ _ _=>by omega
        grow:=hG.mono fun c _ hc=>⟨id,by simp,by rw [hc];exact h2⟩
        tback:=fun _ _ h=>h
        below:=fun i b h1 h2 _=>by omega
        tkeep:=fun _ _ h=> .inl h}
     ·exact h.elim
   ·rename_i e cs hl
    cases hb1:(Nat.beq (cellsOf (eval st.tmps y)).length ti.size&&(cellsOf (eval st.tmps y)).all bE) with
    |false=>rw [hb1] at h;exact h.elim
    |true=>
     rw [hb1] at h
     simp only [af,ar] at hb1 h
     split at h
     ·rename_i cs' hp
      refine ⟨_,_,_,_,_,h,av _, ?_,jF.one,by simp,fun ρ T a w next Q hr hb _ _ _ hnext=> ?_⟩
      ·intro i hi
       simp only [aq,cq,false_or] at hi
       subst hi;exact ⟨_,hl⟩
      ·have h1:=hr x (by simp [ho,Op.operands])
       have hy:=hr y (by simp [ho,Op.operands])
       rw [hx] at h1
       obtain ⟨b,h2,h3⟩:=h1
       obtain ⟨sb,b',h4,h5,hTb,h6⟩:=hb id (.inr (by simp))
       rw [hl] at h4;cases h4
       rw [h2] at h5;cases h5
       obtain ⟨vs,h7,m,r,hm,h8⟩:=h6
       have hj:eval st.tmps y≠ .junk:=by
        intro hj
        rw [hj] at hb1
        simp [cellsOf,bE] at hb1
       have hcell:=oH hy hj
       obtain ⟨h9,h10⟩:=pU off hp h8 hcell
       have hl1:=bV h8
       have hl2:=bV hcell
       have hlen:=ai hb1.1
       have hml:=congrArg List.length hm
       have hvl:vs.toList.length=vs.size:=by simp
       rw [au] at hml
       have hfitm:off+(a.eval y).cells.toList.length<=m.length:=by
        rw [<- hl2];omega
       have hfit:off+(a.eval y).cells.toList.length<=vs.size:=by omega
       have hover:bI vs.toList off (a.eval y).cells.toList=bI m off (a.eval y).cells.toList++r:=by
        unfold bI
        rw [hm,da (by omega),di (by omega)]
        simp
       have hrun:(execOp a.eval o).run P w= .ok .skip (bJ w b (bI vs.toList off (a.eval y).cells.toList).toArray e):=by
        have hsz:(a.eval y).cells.size=ti.size:=by
         rw [<- hlen,hl2];simp
        simp only [execOp,ho,h3,Instr.storeAt,Instr.sureAddr,Sem.run_bind,Sem.run_pure,Result.andThen_ok,storeVar,(htt _ _ ht).sizeOf,hsz,ne_eq,not_true_eq_false,ea]
        rw [gT (e:=e) _ 0 vs w h7 (by simpa using hfit) (i0 hcell hb1.2)]
        simp
       refine xR hrun (hnext undef _ ρ T ?_)
       have hG:bG (fun c=>c=b) w (bJ w b (bI vs.toList off (a.eval y).cells.toList).toArray e):=
        bG.put h7 (by rw [cg,gV (by simpa using hfit)];simp) _ rfl
       have hGT:bG T w (bJ w b (bI vs.toList off (a.eval y).cells.toList).toArray e):=
        hG.mono fun c _ hc=>by rw [hc];exact hTb
       exact {
        names:=fun _ _ h=>h
        only:=fun _ _ h=> .inl h
        val:=⟨#[],rfl,rfl⟩
        turned:=fun i sb hi=>by
         simp only [aq,bn,an] at hi
         obtain ⟨rfl,rfl⟩:=hi
         exact ⟨b,h2,hTb,_,dY (bk.1 h7).1,bI m off (a.eval y).cells.toList,r,by simp [hover],
          bB (fun _ _ h=>h) (fun _ _ h=>h) hGT _ _ h10⟩
        keys:=fun i ob hi=>by
         simp only [aq,bn] at hi
         left;simp [hi.1]
        cover:=fun i hi=>by obtain rfl:=aq.1 hi;exact ⟨_,aq.2 rfl⟩
        fresh:=fun i b h1 h2 _=>by omega
        inj:=fun i j b _ h1 h2 _ _ _=>by omega
        grow:=hG.mono fun c _ hc=>⟨id,by simp,by rw [hc];exact h2⟩
        tback:=fun _ _ h=>h
        below:=fun i b h1 h2 _=>by omega
        tkeep:=fun _ _ h=> .inl h}
     ·exact h.elim
   ·exact h.elim
  ·rename_i id i sz q hx
   have hat:At id (i*sz+q) (eval st.tmps x):=fun ρ T w y hr=>by rw [hx] at hr;exact hr
   split at h
   ·rename_i e cs hl
    cases hb1:(Nat.beq (cellsOf (eval st.tmps y)).length ti.size&&(cellsOf (eval st.tmps y)).all bE) with
    |false=>rw [hb1] at h;exact h.elim
    |true=>
     rw [hb1] at h
     simp only [af,ar] at hb1 h
     split at h
     ·rename_i cs' hp
      exact CG htt ho ht hat hl hb1 (fun ρ T w b n hB hn=>aHk hp hB hn) h
     ·exact h.elim
   ·rename_i e sz' len g hl
    cases hb1:(Nat.beq sz' sz&&(Nat.beq (cellsOf (eval st.tmps y)).length ti.size&&((cellsOf (eval st.tmps y)).all bE&&(ids.idsL (cellsOf (eval st.tmps y))).isEmpty))) with
    |false=>rw [hb1] at h;exact h.elim
    |true=>
     rw [hb1] at h
     simp only [af,ar,gl] at hb1 h
     obtain rfl:=ai hb1.1
     split at h
     ·rename_i cs' hp
      obtain ⟨hi,h⟩:=If.elim h
      exact CG htt ho ht hat hl ⟨hb1.2.1,hb1.2.2.1⟩ (fun ρ T w b n hB hn=>aFB (aa hi) hb1.2.2.2 hp hB hn) h
     ·exact h.elim
   ·exact h.elim
  ·exact h.elim
end
end Go.Se
namespace Go.Se
variable {P:Program}
theorem JZ(off:Nat): ∀(l:List Value) (k:Nat) (cs:Array Value),off+k+l.length<=cs.size->
  (l.zipIdx k).foldl (fun cs (c,j)=>cs.setIfInBounds (off+j) c) cs=(bI cs.toList (off+k) l).toArray
 | [],k,cs,_=>by simp [bI]
 |v::l,k,cs,h=>by
  simp only [az] at h
  rw [List.zipIdx_cons,List.foldl_cons,JZ off l (k+1) _ (by simp;omega)]
  congr 1
  simp only [bI,Array.toList_setIfInBounds,az]
  have hl:off+k<cs.toList.length:=by simp;omega
  rw [show off+(k+1)=off+k+1 by omega,show off+k+1+l.length=off+k+(l.length+1) by omega]
  rw [List.take_set,List.drop_set_of_lt (by omega)]
  rw [List.take_succ_eq_append_getElem hl,List.set_append]
  have hm:min (off+k) cs.size=off+k:=by simp at hl;omega
  simp [hm]
theorem C7{ρ:aL}{T:Nat->Prop}{w:World}{place:Nat->Option (Nat×Nat)}{e:Operand->SV}{ev:Operand->Value}:
  ∀(ps:List (Nat×Operand)) (cs cs':List SV) (vs:Array Value),yS place (ps.map fun q=>(q.1,e q.2)) cs=some cs'->aX ρ T w cs vs.toList->
   (∀q∈ps,rel ρ T w (e q.2) (ev q.2))->(∀q∈ps,e q.2≠ .junk)->
   ∃vs',Instr.fill place vs (ps.map fun q=>(q.1,ev q.2))=some vs'/\aX ρ T w cs' vs'.toList
 | [],cs,cs',vs,h,hc,_,_=>by
  simp only [List.map_nil,yS,an] at h
  subst h;exact ⟨vs,rfl,hc⟩
 |(i,x)::ps,cs,cs',vs,h,hc,hr,hj=>by
  simp only [List.map_cons,yS] at h
  split at h
  ·cases h
  ·rename_i off size hp
   cases hl:Nat.beq (cellsOf (e x)).length size with
   |false=>rw [hl] at h;cases h
   |true=>
    rw [hl] at h
    simp only [ar] at h
    split at h
    ·rename_i cs1 hput
     have hcell:=oH (hr (i,x) (by simp)) (hj (i,x) (by simp))
     obtain ⟨h1,h2⟩:=pU off hput hc hcell
     have hl':=ai hl
     have hl2:=bV hcell
     have hl3:=bV hc
     have hl4:cs.length=vs.size:=hl3.trans (by simp)
     have hfit:off+(ev x).cells.toList.length<=vs.size:=by
      have hl5:(cellsOf (e x)).length=(ev x).cells.toList.length:=hl2
      have h1':off+(cellsOf (e x)).length<=cs.length:=h1
      omega
     have hsz:(ev x).cells.size=size:=by rw [<- hl',hl2];simp
     obtain ⟨vs',h3,h4⟩:=C7 ps cs1 cs' (bI vs.toList off (ev x).cells.toList).toArray h (by simpa using h2)
      (fun q hq=>hr q (by simp [hq])) (fun q hq=>hj q (by simp [hq]))
     refine ⟨vs', ?_,h4⟩
     simp only [List.map_cons,Instr.fill,hp,hsz,ne_eq,not_true_eq_false,decide_false,gx,ak]
     rw [if_neg (by simp at hfit|-;omega)]
     have:=JZ off (ev x).cells.toList 0 vs (by simpa using hfit)
     rw [<- Array.foldl_toList,Array.toList_zipIdx,this]
     exact h3
    ·cases h
theorem QT{α β:Type}{P:Program}{w:World}{f:α->Sem β}{g:α->β}(l:List α)(h: ∀x∈l,(f x).run P w= .ok (g x) w):
  (l.mapM f).run P w= .ok (l.map g) w:=by
 induction l with
 |nil=>rfl
 |cons x l ih=>
  rw [List.mapM_cons]
  simp only [Sem.run_bind,h x (by simp),Result.andThen_ok,ih fun y hy=>h y (by simp [hy]),Sem.run_pure,List.map_cons]
instance:LawfulMonad Sem:=LawfulMonad.mk' Sem
 (id_map:=fun x=>Sem.bind_pure' x) (pure_bind:=fun _ _=>rfl) (bind_assoc:=fun x f g=>Sem.bind_assoc' x f g)
section
variable {st:St} {o:Oper} {K:KV} {env:Env} (htt: ∀t ti,env.tt t=some ti->gJ P t ti)
theorem aCA{ps:List (Nat×Operand)}{l:mQ}(h:(ps.map fun q=>(q.1,eval l q.2)).all (fun q=>AJ q.2)=true): ∀q∈ps,eval l q.2≠ .junk:=by
 intro q hq hj
 rw [gb] at h
 have:=h (q.1,eval l q.2) (fa.2 ⟨q,hq,rfl⟩)
 simp only [hj] at this
 cases this
include htt
theorem VH {t:TypeId} {ps:Array (Nat×Operand)} (ho:o.op= .build t ps)
  (h:TW env t (ps.toList.map fun q=>(q.1,eval st.tmps q.2)) fun v=>K v [] st.nxt [] []):cD P st o K:=by
 unfold TW at h
 cases hj:(ps.toList.map fun q=>(q.1,eval st.tmps q.2)).all (fun q=>AJ q.2) with
 |false=>rw [hj] at h;exact h.elim
 |true=>
 rw [hj] at h
 simp only [ar] at h
 have hops: ∀q∈ps.toList,q.2∈o.op.operands:=by
  intro q hq
  simp only [ho,Op.operands,List.mem_toArray,fa]
  exact ⟨q,hq,rfl⟩
 split at h
 ·exact h.elim
 ·rename_i ti ht
  split at h
  ·rename_i fs hk
   split at h
   ·rename_i cs hf
    refine cD.pure h (gY.pure fun ρ T a w hr=> ?_)
    obtain ⟨gs,hgs,hfs,_⟩:=kG (htt _ _ ht) hk
    have hu: ∀w,(Go.underlying t).run P w= .ok (.struct gs) w:=fun w=>by simp [Go.underlying,hgs]
    obtain ⟨z,hz,hzc⟩:=(htt _ _ ht).zero (w:=w)
    have hex: ∀f∈gs.toList,∃i,P.info? f.type=some i:=by
     intro f hf
     have:=((htt _ _ ht).held _ hk).2 (f.offset,f.type) (by rw [hfs];exact fa.2 ⟨f,hf,rfl⟩)
     exact db.1 this
    let g:Field->Nat×Nat:=fun f=>(f.offset,((P.info? f.type).map (·.size)).getD 0)
    have hplaces:(gs.mapM fun f=>(do Pure.pure (f.offset,<- sizeOf f.type):Sem (Nat×Nat))).run P w= .ok (gs.map g) w:=by
     rw [<- Array.toArray_toList (xs:=gs),List.mapM_toArray]
     simp only [Sem.run_map]
     rw [QT (g:=g)]
     ·simp only [Result.andThen_ok];congr 1;apply fw;simp
     ·intro f hf
      obtain ⟨i,hi⟩:=hex f hf
      simp [Go.sizeOf,Go.typeInfo,hi,g]
    have hplace: ∀i p,fieldPlace env.tt fs i=some p->(gs.map g)[i]? =some p:=by
     intro i p hp
     obtain ⟨off,size⟩:=p
     obtain ⟨gs',hgs',f,hfi,h1,tf,htf,h2,_⟩:=xM htt (htt _ _ ht) hk hp
     rw [hgs] at hgs';cases hgs'
     obtain ⟨⟨i',hi',hsz,_⟩,_⟩:=htf
     simp only [Array.getElem?_map,hfi,dq,g,hi',Option.getD_some,h1]
     rw [hsz,h2]
    have hf':yS (fun i=>(gs.map g)[i]?) (ps.toList.map fun q=>(q.1,eval st.tmps q.2)) ti.zero=some cs:=by
     clear h hj hops hz hzc hplaces
     revert hf
     generalize ti.zero=zs
     generalize (ps.toList.map fun q=>(q.1,eval st.tmps q.2))=l
     induction l generalizing zs with
     |nil=>intro hf;exact hf
     |cons q l ih=>
      obtain ⟨i,v⟩:=q
      intro hf
      simp only [yS] at hf|-
      split at hf
      ·cases hf
      ·rename_i off size hp
       rw [hplace i _ hp]
       simp only
       cases hl:Nat.beq (cellsOf v).length size with
       |false=>rw [hl] at hf;cases hf
       |true=>
        rw [hl] at hf
        simp only [ar] at hf|-
        split at hf
        ·rename_i c1 hc1
         exact ih c1 hf
        ·cases hf
    obtain ⟨vs',h3,h4⟩:=C7 ps.toList ti.zero cs z.cells hf' (cZ ρ T w _ _ hzc) (fun q hq=>hr _ (hops q hq)) (aCA hj)
    refine ⟨.agg vs', ?_,vs',rfl,h4⟩
    simp only [execOp,ho,Instr.build,Sem.run_bind,hz,Result.andThen_ok,hu,hplaces,gj]
    rw [h3]
    rfl
   ·exact h.elim
  ·rename_i n e hk
   split at h
   ·rename_i te hte
    split at h
    ·rename_i cs hf
     refine cD.pure h (gY.pure fun ρ T a w hr=> ?_)
     have hu: ∀w,(Go.underlying t).run P w= .ok (.array n e) w:=fun w=>by simp [Go.underlying,i2 (htt _ _ ht) hk]
     obtain ⟨z,hz,hzc⟩:=(htt _ _ ht).zero (w:=w)
     obtain ⟨vs',h3,h4⟩:=C7 ps.toList ti.zero cs z.cells hf (cZ ρ T w _ _ hzc) (fun q hq=>hr _ (hops q hq)) (aCA hj)
     refine ⟨.agg vs', ?_,vs',rfl,h4⟩
     simp only [execOp,ho,Instr.build,Sem.run_bind,hz,Result.andThen_ok,hu,(htt _ _ hte).sizeOf,gj]
     rw [h3]
     rfl
    ·exact h.elim
   ·exact h.elim
  ·exact h.elim
omit htt in
theorem DR{ρ:aL}{T:Nat->Prop}{w:World}{zs:List SV}{z:Array Value}(h:aX ρ T w zs z.toList):
  aX ρ T w zs ((List.range z.size).map fun i=>z[i%z.size]!):=by
 have:((List.range z.size).map fun i=>z[i%z.size]!)=z.toList:=by
  apply List.ext_getElem (by simp)
  intro i h1 h2
  simp only [gu,List.length_range] at h1
  simp [Nat.mod_eq_of_lt h1,h1]
 rw [this];exact h
omit htt in
theorem B1{ρ:aL}{T:Nat->Prop}{w:World}{zs:List SV}{z:Array Value}(h:aX ρ T w zs z.toList):
  ∀n,aX ρ T w (oM zs n) ((List.range (n*z.size)).map fun i=>z[i%z.size]!)
 |0=>by simp [oM,aX]
 |n+1=>by
  rw [show (n+1)*z.size=z.size+n*z.size by rw [Nat.succ_mul,Nat.add_comm],List.range_add,gf,gm]
  refine gN (DR h) ?_
  have:=B1 h n
  have e:((fun i=>z[i%z.size]!)∘fun x=>z.size+x)=fun i=>z[i%z.size]! :=by
   funext i;simp
  rw [e];exact this
theorem CQ {t:TypeId} {len:Nat} {ps:Array (Nat×Operand)} (ho:o.op= .buildSlice t len ps)
  (h:uT env t len (ps.toList.map fun q=>(q.1,eval st.tmps q.2)) st K):cD P st o K:=by
 unfold uT at h
 cases hj:(ps.toList.map fun q=>(q.1,eval st.tmps q.2)).all (fun q=>AJ q.2) with
 |false=>rw [hj] at h;exact h.elim
 |true=>
 rw [hj] at h
 simp only [ar] at h
 have hops: ∀q∈ps.toList,q.2∈o.op.operands:=by
  intro q hq
  simp only [ho,Op.operands,List.mem_toArray,fa]
  exact ⟨q,hq,rfl⟩
 split at h
 ·exact h.elim
 ·rename_i ti ht
  split at h
  ·rename_i e hk
   split at h
   ·rename_i te hte
    cases hb:(Nat.ble (len*te.size) 16777216&&Nat.beq te.zero.length te.size) with
    |false=>rw [hb] at h;exact h.elim
    |true=>
     rw [hb] at h
     simp only [af,ar] at hb h
     split at h
     ·rename_i cs hf
      obtain ⟨hlen,h⟩:=If.elim h
      refine ⟨_,_,_,_,_,h,Nat.le_succ _,by simp,jF.one,by simp,fun ρ T a w next Q hr _ _ hρ hn hnext=> ?_⟩
      have hu: ∀w,(Go.underlying t).run P w= .ok (.slice e) w:=fun w=>by simp [Go.underlying,cK (htt _ _ ht) hk]
      obtain ⟨z,hz,hzc⟩:=(htt _ _ hte).zero (w:=w)
      have hzr:=cZ ρ T w _ _ hzc
      have hzs:z.cells.size=te.size:=by
       have:=bV hzr
       rw [ai hb.2] at this
       simpa using this.symm
      have hle: ¬len*te.size>2^24:=by
       have:=cd hb.1
       omega
      have hcells:aX ρ T w (oM te.zero len) (((Array.range (len*te.size)).map fun i=>z.cells[i%z.cells.size]!)).toList:=by
       have:=B1 hzr len
       rw [hzs] at this
       rw [hzs]
       simpa [Array.toList_range] using this
      obtain ⟨vs',h3,h4⟩:=C7 ps.toList _ cs _ hf hcells (fun q hq=>hr _ (hops q hq)) (aCA hj)
      have hrun:(execOp a.eval o).run P w= .ok (.value (.slice (some ⟨w.heap.size,0,none⟩) len len)) (w.alloc (.cells vs' e)):=by
       simp only [execOp,ho,Instr.buildSlice,Sem.run_bind,hu,Result.andThen_ok,(htt _ _ hte).sizeOf,gj]
       rw [if_neg hle]
       by_cases h0:len*te.size=0
       ·have harr:(Array.range (len*te.size)).map (fun i=>(#[]:Array Value)[i%(#[]:Array Value).size]!)=
          (Array.range (len*te.size)).map fun i=>z.cells[i%z.cells.size]! :=by rw [h0];simp
        rw [if_pos h0]
        simp only [Sem.run_bind,Sem.run_pure,Result.andThen_ok]
        rw [harr,h3]
        simp [newRow]
       ·rw [if_neg h0]
        simp only [Sem.run_bind,hz,Sem.run_pure,Result.andThen_ok]
        rw [h3]
        simp [newRow]
      refine bR hrun (hnext _ _ _ _ (gX.new hρ (hn _ (av _) (Nat.lt_succ_self _)) h4 ?_))
      exact ⟨⟨_,by simp [eJ],rfl⟩,by simpa using hlen⟩
     ·exact h.elim
   ·exact h.elim
  ·exact h.elim
end
end Go.Se
namespace Go.Se
variable {P:Program}
theorem gX.newB {ρ:aL} {T:Nat->Prop} {w w':World} {n b:Nat} {sb:SB} {v:SV} {x:Value} (hn:ρ n=none) (hG:bG (fun _=>False) w w') (hge:w.heap.size<=b) (hlt:b<w'.heap.size)
  (hB:fV (eJ ρ n b) (fun c=>T c\/c=b) w' sb b) (hv:rel (eJ ρ n b) (fun c=>T c\/c=b) w' v x):
  gX ρ T w n (n+1) v [(n,some sb)] [] (eJ ρ n b) (fun c=>T c\/c=b) w' x where
 names id c h:=by
  unfold eJ
  rw [if_neg (by rintro rfl;rw [hn] at h;cases h)];exact h
 only id c h:=by
  unfold eJ at h
  split at h
  ·right;omega
  ·exact .inl h
 val:=hv
 turned id s h:=by
  simp only [aq,bn,an] at h
  obtain ⟨rfl,rfl⟩:=h
  exact ⟨b,by simp [eJ],.inr rfl,hB⟩
 keys id o h:=by
  simp only [aq,bn] at h
  right;omega
 cover _ h:=by cases h
 fresh id c h1 h2 h:=by
  left
  obtain rfl:id=n:=by omega
  simp [eJ] at h
  omega
 inj i j c h1 h2 h3 h4 _ _:=by omega
 grow:=hG.mono fun _ _ h=>h.elim
 tback c hb h:=by
  rcases h with h|h
  ·exact h
  ·omega
 below id c h1 h2 h:=by
  obtain rfl:id=n:=by omega
  simp [eJ] at h
  omega
 tkeep c _ h:= .inl (.inl h)
theorem gX.turnB {ρ:aL} {T:Nat->Prop} {w w':World} {n id b b0:Nat} {sb:SB} {v:SV} {x:Value} (hn:ρ n=none) (hid:ρ id=some b0) (hT0:T b0) (hG:bG (fun c=>c=b0) w w') (hb:b=b0\/w.heap.size<=b) (hlt:b<w'.heap.size)
  (hB:fV (eJ ρ n b) (fun c=>T c\/c=b) w' sb b) (hv:rel (eJ ρ n b) (fun c=>T c\/c=b) w' v x):
  gX ρ T w n (n+1) v [(id,none),(n,some sb)] [id] (eJ ρ n b) (fun c=>T c\/c=b) w' x where
 names i c h:=by
  unfold eJ
  rw [if_neg (by rintro rfl;rw [hn] at h;cases h)];exact h
 only i c h:=by
  unfold eJ at h
  split at h
  ·right;omega
  ·exact .inl h
 val:=hv
 turned i s h:=by
  simp only [cb,bn,reduceCtorEq,and_false,an,cq,fy,false_or] at h
  obtain ⟨rfl,rfl⟩:=h
  exact ⟨b,by simp [eJ],.inr rfl,hB⟩
 keys i o h:=by
  simp only [cb,bn,cq,fy] at h
  rcases h with h|h
  ·left;simp [h.1]
  ·right;omega
 cover i h:=by
  obtain rfl:=aq.1 h
  exact ⟨none,by simp⟩
 fresh i c h1 h2 h:=by
  obtain rfl:i=n:=by omega
  simp [eJ] at h
  subst h
  rcases hb with rfl|hb
  ·exact .inr ⟨id,by simp,by simp,hid⟩
  ·exact .inl hb
 inj i j c h1 h2 h3 h4 _ _:=by omega
 grow:=hG.mono fun c _ h=>⟨id,by simp,by rw [h];exact hid⟩
 tback c hc h:=by
  rcases h with h|h
  ·exact h
  ·rcases hb with rfl|hb
   ·rw [h];exact hT0
   ·omega
 below i c h1 h2 h:=by
  obtain rfl:i=n:=by omega
  simp [eJ] at h
  omega
 tkeep c _ h:= .inl (.inl h)
theorem bG.drewAlloc(T:Nat->Prop)(w:World)(o:Obj):bG T w (w.drew.alloc o) where
 size:=by rw [World.size_alloc];show w.heap.size<=w.heap.size+1;omega
 same b hb _:=qQ (w:=w.drew) hb
 shape b vs e f h:=⟨vs,f,by rw [qQ (w:=w.drew) (bk.1 h).1];exact h,rfl⟩
 os:=rfl
 output:=rfl
 tape:=rfl
theorem o9 (w:World) (t tx ty e e':TypeId) (i:TypeInfo) (ht:P.underlying t=some (.slice e)) (hi:P.info? e=some i) (b sLen sCap:Nat) (x:Value) (n:Nat) (news:List Value) (hs:Src P i.size tx x n news w)
  (hroom:sLen+n<=sCap) {vs:Array Value} (hb:w.heap[b]? =some (.cells vs e' (0,0))) (hfit:sLen*i.size+news.length<=vs.size) (as:Array TypeId) (ha0:as[0]? =some t) (ha1:as[1]? =some tx):
  (Builtin.append_ as ty #[.slice (some ⟨b,0,none⟩) sLen sCap,x]).run P w= .ok (.slice (some ⟨b,0,none⟩) (sLen+n) sCap) (bJ w b (bI vs.toList (sLen*i.size) news).toArray e'):=by
 have hst:=gT (P:=P) (o:=sLen*i.size) news 0 vs w hb (by omega) hs.one
 simp only [Nat.add_zero] at hst
 rcases hs.kind with ⟨e',hk⟩|hk<;>simp [Builtin.append_,ha0,ha1,ej ht,ej hk,sizeOf,typeInfo,hi,hs.len,hroom,hs.cells,dL,hst]
theorem fX (w:World) (t tx ty e:TypeId) (i:TypeInfo) (z:Value) (ht:P.underlying t=some (.slice e)) (hi:P.info? e=some i) (hz:i.zero=some z) (base:Option Addr) (sLen sCap:Nat) (olds:List Value)
  (hold:(Builtin.firstCells i.size sLen (.slice base sLen sCap)).run P w.drew= .ok olds.toArray w.drew) (x:Value) (n:Nat) (news:List Value) (hs:Src P i.size tx x n news w)
  (hg:sCap<sLen+n) (h63:((sLen+n:Nat):Int)<=9223372036854775807) (hfit:Builtin.nextslicecap (sLen+n) sCap*i.bytes<=281474976710656) (as:Array TypeId) (ha0:as[0]? =some t) (ha1:as[1]? =some tx):
  (Builtin.append_ as ty #[.slice base sLen sCap,x]).run P w=
   .ok (.slice (some ⟨w.heap.size,0,none⟩) (sLen+n) (grownCap w (sLen+n) sCap e))
    (w.drew.alloc (.cells ((olds++news).toArray++Builtin.zeroCells z.cells (grownCap w (sLen+n) sCap e - (sLen+n))) e)):=by
 have h:=run_append_grow_src (P:=P) w t tx ty e i z ht hi hz base sLen sCap olds hold x n news hs hg h63 hfit
 have e1:Builtin.append_ as ty #[.slice base sLen sCap,x]=Builtin.append_ #[t,tx] ty #[.slice base sLen sCap,x]:=by
  unfold Builtin.append_
  rw [ha0,ha1]
  rfl
 rw [e1]
 exact h
theorem WR{ρ:aL}{n:Nat}(hn:ρ n=none)(b:Nat): ∀id c,ρ id=some c->eJ ρ n b id=some c:=fun id c h=>by
 unfold eJ
 rw [if_neg (by rintro rfl;rw [hn] at h;cases h)];exact h
theorem B9{T:Nat->Prop}{w:World}{b:Nat}(hb:w.heap.size<=b): ∀c,c<w.heap.size->(T c\/c=b)->T c:=fun c hc h=>by
 rcases h with h|h
 ·exact h
 ·omega
theorem fD(z:Array Value)(n:Nat):(Builtin.zeroCells z n).size=n*z.size:=by simp [Builtin.zeroCells]
section
variable {env:Env} {st:St} {o:Oper} {K:KV} (htt: ∀t ti,env.tt t=some ti->gJ P t ti)
include htt
omit htt in
theorem xQ {size n:Nat} {x:SV} {c:List SV} {rd:List Nat} {tx e':TypeId} (h:aDi st size x=some (n,c,rd)) (hk:P.underlying tx=some (.slice e')) {ρ:aL} {T:Nat->Prop} {w:World} {y:Value}
  (hr:rel ρ T w x y) (hb: ∀i,i∈rd-> ∃sb b,aO st.store i=some sb/\ρ i=some b/\T b/\fV ρ T w sb b):
  ∃news,Src P size tx y n news w/\aX ρ T w c news:=by
 unfold aDi at h
 split at h
 ·cases h
  have hy:y= .slice none 0 0:=hr
  subst hy
  exact ⟨[],Src.ofNil w hk 0,rfl⟩
 ·cases h
  obtain ⟨a,cc,rfl⟩:=hr
  exact ⟨[],Src.ofSlice w hk _ _ _ _ (by simp) (fun j u hj=>by simp at hj) (fun x hx=>by simp at hx),rfl⟩
 ·rename_i id off len cap
  split at h
  ·rename_i ee cs hl
   cases hg:Nat.beq (cut cs off (len*size)).length (len*size)&&(cut cs off (len*size)).all bE with
   |false=>rw [hg] at h;cases h
   |true=>
    rw [hg] at h
    cases h
    simp only [af] at hg
    obtain ⟨⟨b,h2,rfl⟩,_⟩:=hr
    obtain ⟨sb,b',h4,h5,_,h6⟩:=hb id (by simp)
    rw [hl] at h4;cases h4
    rw [h2] at h5;cases h5
    obtain ⟨vs,h7,h8⟩:=h6
    have hc:=jI off (n*size) h8
    have hlen:=ai hg.1
    have hl2:=bV hc
    refine ⟨(vs.toList.drop off).take (n*size),Src.ofSlice w hk _ _ _ _ (by omega) (fun j u hj=> ?_) (i0 hc hg.2),hc⟩
    rw [dL,fF h7]
    rw [br] at hj
    split at hj
    ·rw [bu] at hj
     simpa using hj
    ·cases hj
  ·cases h
 ·rename_i id off st' len
  split at h
  ·rename_i ee cs hl
   cases hg:Nat.beq st' size&&(Nat.beq (cut cs (off*size) (len*size)).length (len*size)&&(cut cs (off*size) (len*size)).all bE) with
   |false=>rw [hg] at h;cases h
   |true=>
    rw [hg] at h
    cases h
    simp only [af] at hg
    obtain ⟨hst,hg⟩:=hg
    obtain rfl:=ai hst
    obtain ⟨b,cc,h2,rfl,_⟩:=hr
    obtain ⟨sb,b',h4,h5,_,h6⟩:=hb id (by simp)
    rw [hl] at h4;cases h4
    rw [h2] at h5;cases h5
    obtain ⟨vs,h7,m,r,hm,h8⟩:=h6
    have hc:=jI (off*st') (n*st') h8
    have hlen:=ai hg.1
    have hl2:=bV hc
    refine ⟨(m.drop (off*st')).take (n*st'),Src.ofSlice w hk _ _ _ _ (by omega) (fun j u hj=> ?_) (i0 hc hg.2),hc⟩
    rw [dL,fF h7]
    rw [br] at hj
    split at hj
    ·rw [bu] at hj
     have hlt:=(ca.1 hj).1
     rw [<- bt,hm,fh hlt]
     exact hj
    ·cases hj
  ·cases h
 ·cases h
omit htt in
theorem aKj{size n:Nat}{x:SV}{c:List SV}{rd:List Nat}(h:aDi st size x=some (n,c,rd)): ∀i,i∈rd-> ∃sb,aO st.store i=some sb:=by
 intro i hi
 unfold aDi at h
 split at h
 ·cases h;cases hi
 ·cases h;cases hi
 ·rename_i id off len cap
  split at h
  ·rename_i ee cs hl
   cases hg:Nat.beq (cut cs off (len*size)).length (len*size)&&(cut cs off (len*size)).all bE with
   |false=>rw [hg] at h;cases h
   |true=>
    rw [hg] at h
    cases h
    obtain rfl:=aq.1 hi
    exact ⟨_,hl⟩
  ·cases h
 ·rename_i id off st' len
  split at h
  ·rename_i ee cs hl
   cases hg:Nat.beq st' size&&(Nat.beq (cut cs (off*size) (len*size)).length (len*size)&&(cut cs (off*size) (len*size)).all bE) with
   |false=>rw [hg] at h;cases h
   |true=>
    rw [hg] at h
    cases h
    obtain rfl:=aq.1 hi
    exact ⟨_,hl⟩
  ·cases h
 ·cases h
omit htt in
theorem xU{T:Nat->Prop}{w:World}{b:Nat}: ∀(l:List SV) (o:Nat),fJ T w l b o-> ∃m,aX (fun _=>none) T w l m/\ ∀j u,m[j]? =some u->w.cell? ⟨b,o+j,none⟩=some u
 | [],o,_=>⟨[],rfl,fun j u h=>by simp at h⟩
 |a::l,o,⟨⟨v,h1,h2⟩,h3⟩=>by
  obtain ⟨m,h4,h5⟩:=xU l (o+1) h3
  refine ⟨v::m,⟨v,m,rfl,h2,h4⟩,fun j u hj=> ?_⟩
  cases j with
  |zero=>simp at hj;subst hj;exact h1
  |succ j=>
   have:=h5 j u (by simpa using hj)
   rw [show o+(j+1)=o+1+j by omega];exact this
omit htt in
theorem AB{T:Nat->Prop}{w:World}{sz b off:Nat}{g:Nat->List SV}: ∀(n:Nat),(∀i,i<n->fJ T w (g i) b (off+i*sz))->(∀i,i<n->(g i).length=sz/\(g i).all bE=true)->
  ∃news:List Value,news.length=n*sz/\(∀j u,news[j]? =some u->w.cell? ⟨b,off+j,none⟩=some u)/\(∀u∈news,u.oneCell'=true)/\
   ∀i,i<n->aX (fun _=>none) T w (g i) ((news.drop (i*sz)).take sz)
 |0,_,_=>⟨[],by simp,fun j u h=>by simp at h,fun u h=>(by cases h),fun i h=>by omega⟩
 |n+1,h,hl=>by
  obtain ⟨news,h1,h2,h3,h4⟩:=AB n (fun i hi=>h i (by omega)) (fun i hi=>hl i (by omega))
  obtain ⟨m,h5,h6⟩:=xU (g n) _ (h n (by omega))
  obtain ⟨h7,h8⟩:=hl n (by omega)
  have hm:=bV h5
  refine ⟨news++m,by rw [au,h1,<- hm,h7,bp,cj],fun j u hj=> ?_,fun u hu=> ?_,fun i hi=> ?_⟩
  ·rw [List.getElem?_append] at hj
   split at hj
   ·exact h2 j u hj
   ·have:=h6 _ u hj
    rw [show off+j=off+n*sz+(j - news.length) by omega];exact this
  ·rcases ct.1 hu with hu|hu
   ·exact h3 u hu
   ·exact i0 h5 h8 u hu
  ·by_cases hin:i=n
   ·subst hin
    rw [<- h1,List.drop_left,gc (by omega)]
    exact h5
   ·have:(i+1)*sz<=n*sz:=bj _ (by omega)
    rw [bp,cj] at this
    rw [di (by omega),da (by rw [dc];omega)]
    exact h4 i (by omega)
omit htt in
theorem R1{ρ:aL}{T:Nat->Prop}{w:World}{sb:SB}{b:Nat}{vs0:Array Value}{e0:TypeId}{f0:Nat×Nat}(hc:w.heap[b]? =some (.cells vs0 e0 f0))(h:fV ρ T w sb b): ∃vs e,w.heap[b]? =some (.cells vs e (0,0)):=by
 cases sb with
 |cells e cs=>obtain ⟨vs,h,_⟩:=h;exact ⟨vs,e,h⟩
 |lst e cs=>obtain ⟨vs,h,_⟩:=h;exact ⟨vs,e,h⟩
 |row e st n g=>obtain ⟨vs,h,_⟩:=h;exact ⟨vs,e,h⟩
 |loop tm nt ps as bd pend=>obtain ⟨r,h,_⟩:=h;rw [hc] at h;cases h
 |iter s pos=>obtain ⟨q,h,_⟩:=h;rw [hc] at h;cases h
omit htt in
theorem HE{z:Array Value}{n:Nat}(hz:0<z.size){v:Value}(h:v∈(Builtin.zeroCells z n).toList):v∈z.toList:=by
 simp [Builtin.zeroCells] at h
 have hlt:=Nat.mod_lt (List.mem_iff_getElem.1 (Array.mem_toList_iff.2 (Array.mem_of_getElem rfl:z[0]∈z))).choose hz
 obtain ⟨k,hk,h⟩:=h
 have hm:=Nat.mod_lt k hz
 rw [getElem!_pos z _ hm] at h
 rw [<- h];simp
theorem TZ {c:Call} {t:TypeId} {x:SV} {ts:List TypeId} (hexec: ∀(a:Act),execOp a.eval o=Go.builtin .clear c.argTypes o.type (c.args.map fun| .const _=>true|_=>false) (c.args.map a.eval))
  (hargs: ∀(ρ:aL) (T:Nat->Prop) (a:Act) (w:World),(∀x,x∈o.op.operands->rel ρ T w (eval st.tmps x) (a.eval x))->aX ρ T w [x] (c.args.map a.eval).toList)
  (hts:c.argTypes.toList=t::ts) (h:T6 env t x st K):cD P st o K:=by
 have ha0:c.argTypes[0]? =some t:=by rw [<- bt,hts];rfl
 have one: ∀{ρ:aL} {T:Nat->Prop} {w:World} {a:Act},aX ρ T w [x] (c.args.map a.eval).toList-> ∃y,c.args.map a.eval= #[y]/\rel ρ T w x y:=by
  rintro ρ T w a ⟨y,r,h1,h2,h3⟩
  have h3':r=[]:=h3
  subst h3'
  exact ⟨y,by apply fw;exact h1,h2⟩
 unfold T6 at h
 split at h
 case h_2=>exact h.elim
 rename_i ti ht
 split at h
 ·rename_i e s' g hk
  have hT:=cK (htt _ _ ht) hk
  refine cD.pure h (gY.pure fun ρ T a w hr=> ?_)
  obtain ⟨y,h1,h2⟩:=one (hargs ρ T a w hr)
  obtain ⟨ad,cp,rfl,_⟩:=h2
  refine ⟨.tuple #[], ?_,#[],rfl,rfl⟩
  rw [hexec,h1]
  show (do Pure.pure (Next.value (<- Builtin.clear_ c.argTypes o.type #[_]))).run P _=_
  have hu: ∀w,(Go.underlying t).run P w= .ok (.slice e) w:=ej hT
  cases ad<;>simp [Builtin.clear_,ha0,hu]
 ·rename_i e id off sz len hk
  have hT:=cK (htt _ _ ht) hk
  split at h
  case h_2=>exact h.elim
  rename_i te hte
  cases hz0:Nat.beq sz te.size&&(Nat.beq te.zero.length te.size&&te.zero.all bE)&&Nat.blt 0 te.size with
  |false=>rw [hz0] at h;exact h.elim
  |true=>
  rw [hz0] at h
  simp only [af,ar] at hz0 h
  obtain ⟨hz0,hpos⟩:=hz0
  have hpos:0<te.size:=cd hpos
  obtain rfl:=ai hz0.1
  have hzl:=ai hz0.2.1
  split at h
  case h_2=>exact h.elim
  rename_i sb hl
  refine ⟨_,_,_,_,_,h,av _,fun i hi=> ?_,jF.one,by simp,fun ρ T a w next Q hr hb _ hnm _ hnext=> ?_⟩
  ·simp only [aq,cq,false_or] at hi
   subst hi;exact ⟨_,hl⟩
  ·obtain ⟨y,h1,h2⟩:=one (hargs ρ T a w hr)
   obtain ⟨b,cp,k1,rfl,k2,k3,vs0,e0,f0,k4,k5⟩:=h2
   obtain ⟨sb1,b',j1,j2,hTb,j4⟩:=hb id (.inr (by simp))
   rw [k1] at j2;cases j2
   obtain ⟨vs,e1,j5⟩:=R1 k4 j4
   rw [k4] at j5;cases j5
   obtain ⟨z,hz,hzc⟩:=(htt _ _ hte).zero (w:=w)
   have hu: ∀w,(Go.underlying t).run P w= .ok (.slice e) w:=ej hT
   have hzrel:=cZ ρ T w _ _ hzc
   have hzs:z.cells.size=te.size:=by
    have:=bV hzrel
    rw [<- hzl,this];simp
   have hrunc: ∃w',(Builtin.clear_ c.argTypes o.type #[.slice (some ⟨b,off*te.size,none⟩) len cp]).run P w= .ok (.tuple #[]) w'/\bG (fun c=>c=b) w w':=by
    cases len with
    |zero=>exact ⟨w,by simp [Builtin.clear_,ha0,hu],bG.refl _ _⟩
    |succ len=>
     have hsz:(Builtin.zeroCells z.cells (len+1)).toList.length=(len+1)*te.size:=by
      rw [fe,fD,hzs]
     have hfit:off*te.size+0+(Builtin.zeroCells z.cells (len+1)).toList.length<=vs0.size:=by
      have:(len+1)*te.size<=cp*te.size:=bj _ k2
      omega
     have hone: ∀v∈(Builtin.zeroCells z.cells (len+1)).toList,v.oneCell'=true:=fun v hv=>i0 hzrel hz0.2.2 v (HE (by rw [hzs];exact hpos) hv)
     have hst:=gT (P:=P) (o:=off*te.size) _ 0 vs0 w k4 hfit hone
     refine ⟨_, ?_,bG.put k4 (vs':=(bI vs0.toList (off*te.size+0) (Builtin.zeroCells z.cells (len+1)).toList).toArray) (by rw [cg,gV (by simpa using hfit)];simp) _ rfl⟩
     simp [Builtin.clear_,ha0,hu,hz,hst]
   obtain ⟨w',hrun,hG⟩:=hrunc
   refine bR (x:= .tuple #[]) (w':=w') ?_ (hnext _ _ ρ T ?_)
   ·rw [hexec,h1]
    show (do Pure.pure (Next.value (<- Builtin.clear_ c.argTypes o.type #[_]))).run P _=_
    rw [Sem.run_bind,hrun];rfl
   ·exact {
     names:=fun _ _ h=>h
     only:=fun _ _ h=> .inl h
     val:=⟨#[],rfl,rfl⟩
     turned:=fun i sb hi=>by simp at hi
     keys:=fun i ob hi=>by
      simp only [aq,bn] at hi
      left;simp [hi.1]
     cover:=fun i hi=>by obtain rfl:=aq.1 hi;exact ⟨_,aq.2 rfl⟩
     fresh:=fun i b h1 h2 _=>by omega
     inj:=fun i j b _ h1 h2 _ _ _=>by omega
     grow:=hG.mono fun c _ hc=>⟨id,by simp,by rw [hc];exact k1⟩
     tback:=fun _ _ h=>h
     below:=fun i b h1 h2 _=>by omega
     tkeep:=fun _ _ h=> .inl h}
 ·exact h.elim
omit htt in
theorem yX : ∀{l:List SV},ids.idsL l=[]-> ∀v∈l,ids v=[]
 | [],_,v,h=>by cases h
 |a::l,h,v,hv=>by
  simp only [ids.idsL,List.append_eq_nil_iff] at h
  rcases cb.1 hv with rfl|hv
  ·exact h.1
  ·exact yX h.2 v hv
omit htt in
theorem qT : ∀{l:List SV},(∀v∈l,ids v=[])->ids.idsL l=[]
 | [],_=>rfl
 |a::l,h=>by
  simp only [ids.idsL,List.append_eq_nil_iff]
  exact ⟨h a (bq ..),qT fun v hv=>h v (bm _ hv)⟩
omit htt in
theorem qB{ρ:aL}{T:Nat->Prop}{w:World}{e:TypeId}{cs:List SV}{st len b:Nat}(hf:ids.idsL cs=[])(hl:cs.length=len*st)(h:fV ρ T w (.lst e cs) b):
  fV ρ T w (.row e st len (fun i=>cut cs (i*st) st)) b:=by
 obtain ⟨vs,h1,m,r,h2,h3⟩:=h
 have hml:=bV h3
 have hsz:vs.toList.length=vs.size:=by simp
 have h2':=congrArg List.length h2
 rw [au] at h2'
 refine ⟨vs,h1,by omega,fun i hi=> ?_⟩
 have hisz:(i+1)*st<=len*st:=bj _ hi
 rw [bp,cj] at hisz
 have hc:=jI (i*st) st h3
 rw [h2,di (by omega),da (by rw [dc];omega)]
 refine gO _ _ (qT fun v hv=>yX hf v ?_) hc
 exact List.mem_of_mem_drop (List.mem_of_mem_take hv)
omit htt in
theorem aBR{size n:Nat}{x:SV}{g:Nat->List SV}{rd:List Nat}{ok:Bool}(h:OM st size x=some (n,g,rd,ok)): ∀i,i∈rd-> ∃sb,aO st.store i=some sb:=by
 intro i hi
 unfold OM at h
 split at h
 ·rename_i n' sz g'
  cases hs:Nat.beq sz size with
  |false=>rw [hs] at h;cases h
  |true=>rw [hs] at h;cases h;cases hi
 ·rename_i id sz n'
  split at h
  ·rename_i e1 sz' len g' hl
   cases hc:Nat.beq sz size&&Nat.beq sz' size with
   |false=>rw [hc] at h;cases h
   |true=>
    rw [hc] at h
    cases h
    obtain rfl:=aq.1 hi
    exact ⟨_,hl⟩
  ·cases h
 ·cases h
omit htt in
theorem aDD {size n:Nat} {x:SV} {g:Nat->List SV} {rd:List Nat} {ok:Bool} {tx e':TypeId} (h:OM st size x=some (n,g,rd,ok)) (hok:ok=true) (hk:P.underlying tx=some (.slice e'))
  (hg: ∀i,i<n->(g i).length=size/\(g i).all bE=true) {ρ:aL} {T:Nat->Prop} {w:World} {y:Value}
  (hr:rel ρ T w x y) (hb: ∀i,i∈rd-> ∃sb b,aO st.store i=some sb/\ρ i=some b/\T b/\fV ρ T w sb b):
  ∃news,Src P size tx y n news w/\news.length=n*size/\ ∀i,i<n->aX (fun _=>none) T w (g i) ((news.drop (i*size)).take size):=by
 unfold OM at h
 split at h
 ·rename_i n' sz g'
  cases hs:Nat.beq sz size with
  |false=>rw [hs] at h;cases h
  |true=>
   rw [hs] at h
   cases h
   obtain rfl:=ai hs
   obtain ⟨ad,cp,rfl,k2,k3⟩:=hr
   rcases Nat.eq_zero_or_pos n with rfl|hn
   ·cases ad with
    |none=>rw [k2.2.2 rfl];exact ⟨[],Src.ofNil w hk _,by simp,fun i hi=>absurd hi (dn _)⟩
    |some ad=>exact ⟨[],Src.ofSlice w hk _ _ _ _ (by simp) (fun j u hj=>by simp at hj) (fun x hx=>by simp at hx),by simp,fun i hi=>absurd hi (dn _)⟩
   ·obtain ⟨b,off,rfl,k4,k5,k6⟩:=k3 hn
    obtain ⟨news,m1,m2,m3,m4⟩:=AB n k6 hg
    exact ⟨news,Src.ofSlice w hk _ _ _ _ m1 (fun j v hj=>by rw [dL];exact m2 j v hj) m3,m1,m4⟩
 ·rename_i id sz n'
  split at h
  ·rename_i e1 sz' len g' hl
   cases hc:Nat.beq sz size&&Nat.beq sz' size with
   |false=>rw [hc] at h;cases h
   |true=>
    rw [hc] at h
    cases h
    simp only [af] at hc
    obtain rfl:=ai hc.1
    obtain rfl:=ai hc.2
    have hlen:=aa hok
    obtain ⟨b,c,j1,rfl,j2,j3,vs0,e0,f0,j4,j5⟩:=hr
    obtain ⟨sb,b',k1,k2,k3,k4⟩:=hb id (by simp)
    rw [hl] at k1;cases k1
    rw [j1] at k2;cases k2
    obtain ⟨vs,l1,l2,l3⟩:=k4
    have hat: ∀i,i<n->fJ T w (g i) b (0*sz'+i*sz'):=fun i hi=>eV (l3 i (by omega)) fun j c hj=>by
     rw [fF l1]
     rw [br] at hj
     split at hj
     ·rw [bu,bt] at hj
      rw [ce,bi];exact hj
     ·cases hj
    obtain ⟨news,m1,m2,m3,m4⟩:=AB n hat hg
    exact ⟨news,Src.ofSlice w hk _ _ _ _ m1 (fun j v hj=>by rw [dL];exact m2 j v hj) m3,m1,m4⟩
  ·cases h
 ·cases h
omit htt in
theorem yD {T:Nat->Prop} {w:World} {sz len n:Nat} {g h:Nat->List SV} {m0 news rest:List Value} (h0:m0.length=len*sz) (h1:news.length=n*sz)
  (hg: ∀i,i<len->aX (fun _=>none) T w (g i) ((m0.drop (i*sz)).take sz)) (hh: ∀i,i<n->aX (fun _=>none) T w (h i) ((news.drop (i*sz)).take sz)):
  ∀i,i<len+n->aX (fun _=>none) T w (qM len g h i) (((m0++news++rest).drop (i*sz)).take sz):=by
 intro i hi
 unfold qM
 cases hc:Nat.blt i len with
 |true=>
  have hlt:i<len:=by simpa using hc
  have:(i+1)*sz<=len*sz:=bj _ hlt
  rw [bp,cj] at this
  rw [bo,di (by omega),da (by rw [dc];omega)]
  exact hg i hlt
 |false=>
  have hge:len<=i:=by
   rw [cf] at hc
   exact gh.1 fun h=>hc (by simpa using h)
  obtain ⟨k,rfl⟩: ∃k,i=len+k:=⟨i - len,by omega⟩
  have hk:k<n:=by omega
  have:(k+1)*sz<=n*sz:=bj _ hk
  rw [bp,cj] at this
  have hd:(m0++news++rest).drop ((len+k)*sz)=news.drop (k*sz)++rest:=by
   rw [bp,<- List.drop_drop,<- h0,bo,List.drop_left,di (by omega)]
  rw [fo,hd,da (by rw [dc];omega)]
  exact hh k hk
omit htt in
theorem aAz{e sz id len:Nat}{g:Nat->List SV}(h:RN st e sz id=some (g,len)): ∃sb,aO st.store id=some sb/\ ∀(ρ:aL) (T:Nat->Prop) (w:World) (b:Nat),fV ρ T w sb b->
  ∃vs:Array Value,w.heap[b]? =some (.cells vs e (0,0))/\len*sz<=vs.size/\ ∀i,i<len->aX (fun _=>none) T w (g i) ((vs.toList.drop (i*sz)).take sz):=by
 unfold RN at h
 split at h
 ·rename_i e1 sz1 len1 g1 hl
  cases hc:Nat.beq e1 e&&Nat.beq sz1 sz with
  |false=>rw [hc] at h;cases h
  |true=>
   rw [hc] at h
   cases h
   simp only [af] at hc
   obtain rfl:=ai hc.1
   obtain rfl:=ai hc.2
   exact ⟨_,hl,fun ρ T w b hb=>hb⟩
 ·rename_i e1 cs hl
  cases hc:Nat.beq e1 e&&((ids.idsL cs).isEmpty&&Nat.beq (cs.length%sz) 0) with
  |false=>rw [hc] at h;cases h
  |true=>
   rw [hc] at h
   cases h
   simp only [af,gl] at hc
   obtain rfl:=ai hc.1
   have hm:=ai hc.2.2
   have hd:cs.length=cs.length/sz*sz:=(Nat.div_mul_cancel (Nat.dvd_of_mod_eq_zero hm)).symm
   exact ⟨_,hl,fun ρ T w b hb=>qB hc.2.1 hd hb⟩
 ·cases h
omit htt in
theorem sP {c:Call} {t u e:TypeId} {te:TI} {s x:SV} {R:Option (Nat×(Nat->List SV)×List Nat×Bool)} {inf:TypeInfo} {z:Value} (hT:P.underlying t=some (.slice e))
  (hrd: ∀n g rd ok,R=some (n,g,rd,ok)-> ∀i,i∈rd-> ∃sb,aO st.store i=some sb)
  (hsrc: ∀n g rd ok,R=some (n,g,rd,ok)->ok=true->(∀i,i<n->(g i).length=te.size/\(g i).all bE=true)-> ∀{ρ:aL} {T:Nat->Prop} {w:World} {y:Value},rel ρ T w x y->
   (∀i,i∈rd-> ∃sb b,aO st.store i=some sb/\ρ i=some b/\T b/\fV ρ T w sb b)->
   ∃news,Src P te.size u y n news w/\news.length=n*te.size/\ ∀i,i<n->aX (fun _=>none) T w (g i) ((news.drop (i*te.size)).take te.size)) (hinf:P.info? e=some inf) (hsz:inf.size=te.size) (_hby:inf.bytes=te.bytes)
  (hz:inf.zero=some z) (hzs:z.cells.size=te.size)
  (two: ∀{ρ:aL} {T:Nat->Prop} {w:World} {a:Act},(∀x,x∈o.op.operands->rel ρ T w (eval st.tmps x) (a.eval x))-> ∃y y',c.args.map a.eval= #[y,y']/\rel ρ T w s y/\rel ρ T w x y')
  (runs: ∀{a:Act} {w w':World} {y y' v:Value},c.args.map a.eval= #[y,y']->(Builtin.append_ c.argTypes o.type #[y,y']).run P w= .ok v w'->(execOp a.eval o).run P w= .ok (.value v) w')
  (cap48: ∀(need old:Nat),old<need->need*te.bytes<=1099511627776->Builtin.nextslicecap need old*inf.bytes<=281474976710656)
  (ha0:c.argTypes[0]? =some t) (ha1:c.argTypes[1]? =some u) (h:wQ st e te s R K):cD P st o K:=by
 unfold wQ at h
 split at h
 ·exact h.elim
 rename_i n g rd ok
 have rdlook:=hrd _ _ _ _ rfl
 split at h
 ·obtain ⟨hg,h⟩:=h
  obtain ⟨hc,h⟩:=If.elim h
  simp only [af,ak] at hc
  rcases Br.elim h with ⟨hn,h⟩|⟨hn,h⟩
  ·have hn:=aa hn
   refine ⟨_,_,_,rd,[],h,by omega,fun i hi=> ?_,jF.one,fun i o' hi=> ?_,fun ρ T a w next Q hr hb _ hnm hnew hnext=> ?_⟩
   ·rcases hi with hi|hi
    ·exact rdlook i hi
    ·cases hi
   ·simp only [aq,bn] at hi
    right;omega
   ·obtain ⟨y,y',h1,h2,h3⟩:=two hr
    obtain ⟨news,hs,m1,m4⟩:=hsrc _ _ _ _ rfl hc.1 hg h3 fun i hi=>hb i (.inl hi)
    have h2':y= .slice none 0 0:=h2
    subst h2'
    have hrun:=fX (P:=P) w t u o.type e inf z hT hinf hz none 0 0 [] (run_firstCells_none w.drew inf.size 0 0 0) y' n news (hsz▸hs) (by omega) (by omega) (cap48 _ _ (by omega) (by simpa using hc.2.1)) c.argTypes ha0 ha1
    refine bR (runs h1 hrun) (hnext _ _ _ _ (gX.newB (b:=w.heap.size) (hnew st.nxt (av _) (by omega)) (bG.drewAlloc _ w _) (av _) (by rw [World.size_alloc];show w.heap.size<w.heap.size+1;omega) ?_ ?_))
    ·refine ⟨_,eS w.drew _, ?_,fun i hi=> ?_⟩
     ·rw [ew,cg,dj];omega
     ·have hlt:(i+1)*te.size<=n*te.size:=bj _ hi
      rw [bp,cj] at hlt
      rw [fd,dj,di (by simp;omega),da (by simp;omega)]
      exact bB (fun _ _ h=>h) (B9 (av _)) (bG.drewAlloc T w _) _ _ (m4 i hi)
    ·have hge:=grownCap_ge w (0+n) 0 e
     have hle:=grownCap_le_maxLen w (0+n) 0 e (by unfold maxLen;omega)
     refine ⟨w.heap.size,grownCap w (0+n) 0 e,by simp [eJ],by rw [bi,ce],by omega,by unfold maxLen at hle;omega,_,_,_,eS w.drew _, ?_⟩
     rw [ce,bi,ew,cg,dj,fD,hzs,m1,<- bp]
     exact bj _ (by omega)
  ·have hn:n=0:=by have:=ae hn;omega
   subst hn
   refine ⟨.nils,[],st.nxt,rd,[],h,av _,fun i hi=> ?_,jF.nil,by simp,fun ρ T a w next Q hr hb _ _ _ hnext=> ?_⟩
   ·rcases hi with hi|hi
    ·exact rdlook i hi
    ·cases hi
   ·obtain ⟨y,y',h1,h2,h3⟩:=two hr
    obtain ⟨news,hs,m1,m4⟩:=hsrc _ _ _ _ rfl hc.1 hg h3 fun i hi=>hb i (.inl hi)
    have h2':y= .slice none 0 0:=h2
    subst h2'
    refine bR (runs h1 ?_) (hnext (.slice none 0 0) w ρ T (gX.pure rfl))
    rcases hs.kind with ⟨e',hk⟩|hk<;>simp [Builtin.append_,ha0,ha1,ej hT,ej hk,sizeOf,typeInfo,hinf,hs.len,hsz▸hs.cells]
 ·rename_i id0 off0
  obtain ⟨hg,h⟩:=h
  obtain ⟨hc,h⟩:=If.elim h
  simp only [af,ak] at hc
  rcases Br.elim h with ⟨hn,h⟩|⟨hn,h⟩
  ·have hn:=aa hn
   refine ⟨_,_,_,rd,[],h,by omega,fun i hi=> ?_,jF.one,fun i o' hi=> ?_,fun ρ T a w next Q hr hb _ hnm hnew hnext=> ?_⟩
   ·rcases hi with hi|hi
    ·exact rdlook i hi
    ·cases hi
   ·simp only [aq,bn] at hi
    right;omega
   ·obtain ⟨y,y',h1,h2,h3⟩:=two hr
    obtain ⟨news,hs,m1,m4⟩:=hsrc _ _ _ _ rfl hc.1 hg h3 fun i hi=>hb i (.inl hi)
    obtain ⟨⟨b0,k1,rfl⟩,_⟩:=h2
    have hrun:=fX (P:=P) w t u o.type e inf z hT hinf hz (some ⟨b0,off0,none⟩) 0 0 [] (run_firstCells_some w.drew inf.size 0 _ 0 0 [] (by simp) (fun j v hj=>by simp at hj)) y' n news (hsz▸hs) (by omega) (by omega) (cap48 _ _ (by omega) (by simpa using hc.2.1)) c.argTypes ha0 ha1
    refine bR (runs h1 hrun) (hnext _ _ _ _ (gX.newB (b:=w.heap.size) (hnew st.nxt (av _) (by omega)) (bG.drewAlloc _ w _) (av _) (by rw [World.size_alloc];show w.heap.size<w.heap.size+1;omega) ?_ ?_))
    ·refine ⟨_,eS w.drew _, ?_,fun i hi=> ?_⟩
     ·rw [ew,cg,dj];omega
     ·have hlt:(i+1)*te.size<=n*te.size:=bj _ hi
      rw [bp,cj] at hlt
      rw [fd,dj,di (by simp;omega),da (by simp;omega)]
      exact bB (fun _ _ h=>h) (B9 (av _)) (bG.drewAlloc T w _) _ _ (m4 i hi)
    ·have hge:=grownCap_ge w (0+n) 0 e
     have hle:=grownCap_le_maxLen w (0+n) 0 e (by unfold maxLen;omega)
     refine ⟨w.heap.size,grownCap w (0+n) 0 e,by simp [eJ],by rw [bi,ce],by omega,by unfold maxLen at hle;omega,_,_,_,eS w.drew _, ?_⟩
     rw [ce,bi,ew,cg,dj,fD,hzs,m1,<- bp]
     exact bj _ (by omega)
  ·have hn:n=0:=by have:=ae hn;omega
   subst hn
   refine ⟨.arr id0 off0 0 0,[],st.nxt,rd,[],h,av _,fun i hi=> ?_,jF.nil,by simp,fun ρ T a w next Q hr hb _ _ _ hnext=> ?_⟩
   ·rcases hi with hi|hi
    ·exact rdlook i hi
    ·cases hi
   ·obtain ⟨y,y',h1,h2,h3⟩:=two hr
    obtain ⟨news,hs,m1,m4⟩:=hsrc _ _ _ _ rfl hc.1 hg h3 fun i hi=>hb i (.inl hi)
    obtain ⟨⟨b0,k1,rfl⟩,k2⟩:=h2
    have hnl:news=[]:=fg (by rw [hs.newsLen];simp)
    subst hnl
    refine bR (runs h1 ?_) (hnext (.slice (some ⟨b0,off0,none⟩) 0 0) w ρ T (gX.pure ⟨⟨b0,k1,rfl⟩,k2⟩))
    rcases hs.kind with ⟨e',hk⟩|hk<;>simp [Builtin.append_,ha0,ha1,ej hT,ej hk,sizeOf,typeInfo,hinf,hs.len,hsz▸hs.cells,storeCells]
 ·rename_i id len cap
  split at h
  case h_2=>exact h.elim
  rename_i e1 cs hl
  cases hq:Nat.beq cap (len+1)&&((ids.idsL cs).isEmpty&&Nat.beq cs.length ((len+1)*te.size)) with
  |false=>rw [hq] at h;exact h.elim
  |true=>
  rw [hq] at h
  simp only [af,gl] at hq
  obtain ⟨hcap,hids,hcl⟩:=hq
  obtain ⟨hg,h⟩:=h
  obtain ⟨hc,h'⟩:=If.elim h
  clear h
  simp only [af,ak] at hc
  obtain ⟨⟨hok,hn⟩,hb1,hb2⟩:=hc
  have hcap:=ai hcap
  have hcl:=ai hcl
  subst hcap
  refine ⟨_,_,_,id::rd,[],h',by omega,fun i hi=> ?_,jF.one,fun i o' hi=> ?_,fun ρ T a w next Q hr hb _ hnm hnew hnext=> ?_⟩
  ·rcases hi with hi|hi
   ·rcases cb.1 hi with rfl|hi
    ·exact ⟨_,hl⟩
    ·exact rdlook i hi
   ·cases hi
  ·simp only [aq,bn] at hi
   right;omega
  ·obtain ⟨y,y',h1,h2,h3⟩:=two hr
   obtain ⟨news,hs,hnl,hcs⟩:=hsrc _ _ _ _ rfl hok hg h3 fun i hi=>hb i (.inl (bm _ hi))
   obtain ⟨⟨b,k1,rfl⟩,_⟩:=h2
   obtain ⟨sb',b',j1,j2,hTb,j4⟩:=hb id (.inl (bq ..))
   rw [hl] at j1;cases j1
   rw [k1] at j2;cases j2
   obtain ⟨vs,k4,r1⟩:=j4
   have hvl:vs.toList.length=(len+1)*te.size:=by rw [<- hcl];exact (bV r1).symm
   obtain ⟨vs',j5,j6,j7⟩:=qB (ρ:=ρ) (T:=T) (w:=w) (e:=e1) (st:=te.size) (len:=len+1) (b:=b) hids hcl ⟨vs,k4,vs.toList,[],by simp,r1⟩
   rw [k4] at j5
   cases j5
   have hm0:(vs.toList.take ((len+1)*te.size)).length=(len+1)*te.size:=by rw [du];omega
   have hg0': ∀i,i<len+1->aX (fun _=>none) T w (cut cs (i*te.size) te.size) (((vs.toList.take ((len+1)*te.size)).drop (i*te.size)).take te.size):=fun i hi=>by
    have hlt:(i+1)*te.size<=(len+1)*te.size:=bj _ hi
    rw [bp,cj] at hlt
    have:=j7 i hi
    rw [List.drop_take,List.take_take,Nat.min_eq_left (by omega)]
    exact this
   have hold:(Builtin.firstCells inf.size (len+1) (.slice (some ⟨b,0,none⟩) (len+1) (len+1))).run P w.drew= .ok (vs.toList.take ((len+1)*te.size)).toArray w.drew:=by
    refine run_firstCells_some w.drew inf.size (len+1) ⟨b,0,none⟩ (len+1) (len+1) _ (by rw [hsz,hm0]) fun j u hj=> ?_
    rw [dL]
    have:w.drew.cell? ⟨b,0+j,none⟩=vs[0+j]? :=fF (w:=w.drew) k4 _
    rw [this,bi]
    rw [br] at hj
    split at hj
    ·rw [<- bt];exact hj
    ·cases hj
   have hrun:=fX (P:=P) w t u o.type e inf z hT hinf hz (some ⟨b,0,none⟩) (len+1) (len+1) _ hold y' n news (hsz▸hs) (by omega) (by omega) (cap48 _ _ (by omega) hb1) c.argTypes ha0 ha1
   refine bR (runs h1 hrun) (hnext _ _ _ _ (gX.newB (b:=w.heap.size) (hnew st.nxt (av _) (by omega)) (bG.drewAlloc _ w _) (av _) (by rw [World.size_alloc];show w.heap.size<w.heap.size+1;omega) ?_ ?_))
   ·refine ⟨_,eS w.drew _, ?_,fun i hi=> ?_⟩
    ·rw [ew,cg,au,hm0,hnl,bp (len+1) n];omega
    ·rw [fd]
     exact bB (fun _ _ h=>h) (B9 (av _)) (bG.drewAlloc T w _) _ _ (yD hm0 hnl hg0' hcs i hi)
   ·have hge:=grownCap_ge w (len+1+n) (len+1) e
    have hle:=grownCap_le_maxLen w (len+1+n) (len+1) e (by unfold maxLen;omega)
    refine ⟨w.heap.size,grownCap w (len+1+n) (len+1) e,by simp [eJ],by rw [ce],by omega,by unfold maxLen at hle;omega,_,_,_,eS w.drew _, ?_⟩
    rw [ce,bi,ew,cg,au,fD,hzs,hm0,hnl,<- bp,<- bp]
    exact bj _ (by omega)
 ·rename_i id sz len
  cases hg0:Nat.beq sz te.size&& !(rd.any (Nat.beq id)) with
  |false=>rw [hg0] at h;exact h.elim
  |true=>
  rw [hg0] at h
  simp only [af,ar,dg] at hg0 h
  have hsize:=ai hg0.1
  subst hsize
  have hnot:id∉rd:=fun hi=>by
   have:=hg0.2
   rw [List.any_eq_false] at this
   exact this id hi (fb _)
  split at h
  case h_2=>exact h.elim
  rename_i g0 len' hown
  obtain ⟨hg,h⟩:=h
  obtain ⟨hc,h⟩:=If.elim h
  simp only [af,ak] at hc
  obtain ⟨⟨hok,hlen⟩,hc⟩:=hc
  subst hlen
  obtain ⟨sb,hl,hsb⟩:=aAz hown
  refine ⟨_,_,_,_,_,h,by omega,fun i hi=> ?_, ?_,fun i o' hi=> ?_,fun ρ T a w next Q hr hb hinj hnm hnew hnext=> ?_⟩
  ·rcases hi with hi|hi
   ·rcases cb.1 hi with rfl|hi
    ·exact ⟨_,hl⟩
    ·exact rdlook i hi
   ·obtain rfl:=aq.1 hi
    exact ⟨_,hl⟩
  ·intro hst i x1 y1 hx1 hy1
   have hlt:=hst id _ hl
   simp only [cb,bn,cq,fy] at hx1 hy1
   rcases hx1 with ⟨h1,h2⟩|⟨h1,h2⟩<;>rcases hy1 with ⟨h3,h4⟩|⟨h3,h4⟩
   ·rw [h2,h4]
   ·omega
   ·omega
   ·rw [h2,h4]
  ·simp only [cb,bn,cq,fy] at hi
   rcases hi with hi|hi
   ·left;simp [hi.1]
   ·right;omega
  ·obtain ⟨y,y',h1,h2,h3⟩:=two hr
   obtain ⟨news,hs,hnl,hcs⟩:=hsrc _ _ _ _ rfl hok hg h3 fun i hi=>hb i (.inl (bm _ hi))
   obtain ⟨b,cap,k1,hy2,k2,k3,vs0,e0,f0,k4,k5⟩:=h2
   rw [ce] at hy2
   subst hy2
   obtain ⟨sb',b',j1,j2,hTb,j4⟩:=hb id (.inl (bq ..))
   rw [hl] at j1;cases j1
   rw [k1] at j2;cases j2
   obtain ⟨vs,j5,j6,j7⟩:=hsb ρ T w b j4
   rw [k4] at j5
   cases j5
   have hn0:=hnew st.nxt (av _) (by omega)
   have hvl:vs0.toList.length=vs0.size:=by simp
   have hbl:=hnm id b k1
   have hm0:(vs0.toList.take (len'*te.size)).length=len'*te.size:=by rw [du];omega
   have hg0': ∀i,i<len'->aX (fun _=>none) T w (g0 i) (((vs0.toList.take (len'*te.size)).drop (i*te.size)).take te.size):=fun i hi=>by
    have hlt:(i+1)*te.size<=len'*te.size:=bj _ hi
    rw [bp,cj] at hlt
    have:=j7 i hi
    rw [List.drop_take,List.take_take,Nat.min_eq_left (by omega)]
    exact this
   by_cases hroom:len'+n<=cap
   ·have hcapm:(len'+n)*te.size<=vs0.size:=fu (bj _ hroom) (by rw [ce,bi] at k5;exact k5)
    rw [bp] at hcapm
    have hrun:=o9 (P:=P) w t u o.type e e inf hT hinf b len' cap y' n news (hsz▸hs) hroom k4 (by rw [hsz];omega) c.argTypes ha0 ha1
    rw [hsz] at hrun
    have hlen':(bI vs0.toList (len'*te.size) news).length=vs0.toList.length:=gV (by omega)
    have hG:bG (fun c=>c=b) w (bJ w b (bI vs0.toList (len'*te.size) news).toArray e):=
     bG.put k4 (by rw [cg,hlen'];simp) _ rfl
    have hGT:bG T w (bJ w b (bI vs0.toList (len'*te.size) news).toArray e):=hG.mono fun c _ hc=>by rw [hc];exact hTb
    refine bR (runs h1 hrun) (hnext _ _ _ _ (gX.turnB (b:=b) hn0 k1 hTb hG (.inl rfl) (by rw [nV];exact hbl) ?_ ?_))
    ·refine ⟨_,dY hbl,by rw [cg,hlen',hvl,bp];exact hcapm,fun i hi=> ?_⟩
     exact bB (fun _ _ h=>h) (fun c _ h=>by rcases h with h|rfl;exact h;exact hTb) hGT _ _ (yD hm0 hnl hg0' hcs i hi)
    ·refine ⟨b,cap,by simp [eJ],by rw [ce],hroom,k3,_,_,_,dY hbl, ?_⟩
     rw [cg,hlen',hvl];exact k5
   ·have hold:(Builtin.firstCells inf.size len' (.slice (some ⟨b,0,none⟩) len' cap)).run P w.drew= .ok (vs0.toList.take (len'*te.size)).toArray w.drew:=by
     refine run_firstCells_some w.drew inf.size len' ⟨b,0,none⟩ len' cap _ (by rw [hsz,hm0]) fun j u hj=> ?_
     rw [dL]
     have:w.drew.cell? ⟨b,0+j,none⟩=vs0[0+j]? :=fF (w:=w.drew) k4 _
     rw [this,bi]
     rw [br] at hj
     split at hj
     ·rw [<- bt];exact hj
     ·cases hj
    have hrun:=fX (P:=P) w t u o.type e inf z hT hinf hz (some ⟨b,0,none⟩) len' cap _ hold y' n news (hsz▸hs) (by omega) (by omega) (cap48 _ _ (by omega) hc.1) c.argTypes ha0 ha1
    refine bR (runs h1 hrun) (hnext _ _ _ _ (gX.turnB (b:=w.heap.size) hn0 k1 hTb (bG.drewAlloc _ w _) (.inr (av _)) (by rw [World.size_alloc];show w.heap.size<w.heap.size+1;omega) ?_ ?_))
    ·refine ⟨_,eS w.drew _, ?_,fun i hi=> ?_⟩
     ·rw [ew,cg,au,hm0,hnl,bp];omega
     ·rw [fd]
      exact bB (fun _ _ h=>h) (B9 (av _)) (bG.drewAlloc T w _) _ _ (yD hm0 hnl hg0' hcs i hi)
    ·have hge:=grownCap_ge w (len'+n) cap e
     have hle:=grownCap_le_maxLen w (len'+n) cap e (by unfold maxLen;omega)
     refine ⟨w.heap.size,grownCap w (len'+n) cap e,by simp [eJ],by rw [ce],by omega,by unfold maxLen at hle;omega,_,_,_,eS w.drew _, ?_⟩
     rw [ce,bi,ew,cg,au,fD,hzs,hm0,hnl,<- bp,<- bp]
     exact bj _ (by omega)
 ·exact h.elim
omit htt in
theorem aFU{T:Nat->Prop}{w:World}(s:ByteArray): ∀i,i<s.size->aX (fun _=>none) T w (FE s i) (((Go.byteCells s).drop (i*1)).take 1):=by
 intro i hi
 have hl:i<s.data.toList.length:=by rw [fe];exact hi
 have hb:i<(Go.byteCells s).length:=by rw [Go.byteCells_length];exact hi
 rw [Nat.mul_one,dz hb,List.take_succ_cons,List.take_zero]
 refine ⟨_,_,rfl, ?_,rfl⟩
 have e:(Go.byteCells s)[i]=Value.int .u8 (s.data.getD i 0).toNat:=by
  show ((s.data.toList.map fun b=>Value.int .u8 b.toNat)[i]'(by rw [gu];exact hl))=_
  rw [List.getElem_map,Array.getElem_toList,bv,cl (by simpa using hl)];rfl
 refine ⟨e, ?_⟩
 have:=(s.data.getD i 0).toNat_lt
 show (0:Int)<=_/\_<=(255:Int)
 omega
theorem LY {c:Call} {t u:TypeId} {s x:SV} {ts:List TypeId} (hexec: ∀(a:Act),execOp a.eval o=Go.builtin .append c.argTypes o.type (c.args.map fun| .const _=>true|_=>false) (c.args.map a.eval))
  (hargs: ∀(ρ:aL) (T:Nat->Prop) (a:Act) (w:World),(∀x,x∈o.op.operands->rel ρ T w (eval st.tmps x) (a.eval x))->aX ρ T w [s,x] (c.args.map a.eval).toList)
  (hts:c.argTypes.toList=t::u::ts) {ti tu te:TI} {e:TypeId} (ht:env.tt t=some ti) (hu:env.tt u=some tu) (hk:ti.kind= .slice e) (hk':tu.kind= .string) (hte:env.tt e=some te) {y:ByteArray} (hx:x= .str y)
  (hz0:te.zero.length=te.size) (h1:te.size=1) (h:wQ st e te s (some (y.size,FE y,[],true)) K):cD P st o K:=by
 have ha0:c.argTypes[0]? =some t:=by rw [<- bt,hts];rfl
 have ha1:c.argTypes[1]? =some u:=by rw [<- bt,hts];rfl
 have hzl:=hz0
 have hT:=cK (htt _ _ ht) hk
 obtain ⟨⟨inf,hinf,hsz,hby,z,hz,hzc⟩,_,_⟩:=htt _ _ hte
 have hzs:z.cells.size=te.size:=by
  have:=bV (cZ (fun _=>none) (fun _=>False) default z.cells.toList te.zero hzc)
  rw [<- hzl,this];simp
 have two: ∀{ρ:aL} {T:Nat->Prop} {w:World} {a:Act},aX ρ T w [s,x] (c.args.map a.eval).toList-> ∃y y',c.args.map a.eval= #[y,y']/\rel ρ T w s y/\rel ρ T w x y':=by
  rintro ρ T w a ⟨y,r,h1,h2,y',r',h3,h4,h5⟩
  have h5':r'=[]:=h5
  subst h5';subst h3
  exact ⟨y,y',by apply fw;exact h1,h2,h4⟩
 have runs: ∀{a:Act} {w w':World} {y y' v:Value},c.args.map a.eval= #[y,y']->(Builtin.append_ c.argTypes o.type #[y,y']).run P w= .ok v w'->(execOp a.eval o).run P w= .ok (.value v) w':=fun h1 h2=>by
  rw [hexec,h1]
  show (do Pure.pure (Next.value (<- Builtin.append_ c.argTypes o.type #[_,_]))).run P _=_
  rw [Sem.run_bind,h2];rfl
 have cap48: ∀(need old:Nat),old<need->need*te.bytes<=1099511627776->Builtin.nextslicecap need old*inf.bytes<=281474976710656:=fun need old h1 h2=>by
  have h3:=nextslicecap_le h1
  rw [hby]
  have:Builtin.nextslicecap need old*te.bytes<=2*need*te.bytes:=bj _ h3
  rw [Nat.mul_assoc] at this
  omega
 refine sP hT (fun n g rd ok hR=>by cases hR;exact fun i hi=>by cases hi) (fun n g rd ok hR _ _ ρ T w v h3 _=> ?_) hinf hsz hby hz hzs (fun hr=>two (hargs _ _ _ _ hr)) runs cap48 ha0 ha1 h
 cases hR
 rw [hx] at h3
 obtain ⟨rfl,_⟩:=h3
 rw [h1]
 exact ⟨Go.byteCells y,Src.ofString w (gL (htt _ _ hu) hk') y,by rw [Go.byteCells_length,Nat.mul_one],aFU y⟩
theorem OA {c:Call} {t u:TypeId} {s x:SV} {ts:List TypeId} (hexec: ∀(a:Act),execOp a.eval o=Go.builtin .append c.argTypes o.type (c.args.map fun| .const _=>true|_=>false) (c.args.map a.eval))
  (hargs: ∀(ρ:aL) (T:Nat->Prop) (a:Act) (w:World),(∀x,x∈o.op.operands->rel ρ T w (eval st.tmps x) (a.eval x))->aX ρ T w [s,x] (c.args.map a.eval).toList)
  (hts:c.argTypes.toList=t::u::ts) (h:KH env t u s x st K):cD P st o K:=by
 have ha0:c.argTypes[0]? =some t:=by rw [<- bt,hts];rfl
 have ha1:c.argTypes[1]? =some u:=by rw [<- bt,hts];rfl
 unfold KH at h
 split at h
 case h_2=>exact h.elim
 rename_i ti tu ht hu
 split at h
 case h_3=>exact h.elim
 case h_2=>
  rename_i e hk hk'
  split at h
  case h_2=>exact h.elim
  rename_i te y hte
  cases hz0:Nat.beq te.zero.length te.size&&Nat.beq te.size 1 with
  |false=>rw [hz0] at h;exact h.elim
  |true=>
  rw [hz0] at h
  simp only [af] at hz0
  exact LY htt hexec hargs hts ht hu hk hk' hte rfl (ai hz0.1) (ai hz0.2) h
 rename_i e e' hk hk'
 split at h
 case h_2=>exact h.elim
 rename_i te hte
 cases hz0:Nat.beq te.zero.length te.size&&Nat.blt 0 te.size with
 |false=>rw [hz0] at h;exact h.elim
 |true=>
 rw [hz0] at h
 simp only [af,ar] at hz0 h
 have hzl:=ai hz0.1
 have hpos:0<te.size:=cd hz0.2
 have hT:=cK (htt _ _ ht) hk
 have hU:=cK (htt _ _ hu) hk'
 obtain ⟨⟨inf,hinf,hsz,hby,z,hz,hzc⟩,_,_⟩:=htt _ _ hte
 have hzs:z.cells.size=te.size:=by
  have:=bV (cZ (fun _=>none) (fun _=>False) default z.cells.toList te.zero hzc)
  rw [<- hzl,this];simp
 have two: ∀{ρ:aL} {T:Nat->Prop} {w:World} {a:Act},aX ρ T w [s,x] (c.args.map a.eval).toList-> ∃y y',c.args.map a.eval= #[y,y']/\rel ρ T w s y/\rel ρ T w x y':=by
  rintro ρ T w a ⟨y,r,h1,h2,y',r',h3,h4,h5⟩
  have h5':r'=[]:=h5
  subst h5';subst h3
  exact ⟨y,y',by apply fw;exact h1,h2,h4⟩
 have runs: ∀{a:Act} {w w':World} {y y' v:Value},c.args.map a.eval= #[y,y']->(Builtin.append_ c.argTypes o.type #[y,y']).run P w= .ok v w'->(execOp a.eval o).run P w= .ok (.value v) w':=fun h1 h2=>by
  rw [hexec,h1]
  show (do Pure.pure (Next.value (<- Builtin.append_ c.argTypes o.type #[_,_]))).run P _=_
  rw [Sem.run_bind,h2];rfl
 have cap48: ∀(need old:Nat),old<need->need*te.bytes<=1099511627776->Builtin.nextslicecap need old*inf.bytes<=281474976710656:=fun need old h1 h2=>by
  have h3:=nextslicecap_le h1
  rw [hby]
  have:Builtin.nextslicecap need old*te.bytes<=2*need*te.bytes:=bj _ h3
  rw [Nat.mul_assoc] at this
  omega
 split at h
 case h_2=>
  exact sP hT (fun n g rd ok hR=>aBR hR) (fun n g rd ok hR h1 h2 _ _ _ _ h3 h4=>aDD hR h1 hU h2 h3 h4) hinf hsz hby hz hzs (fun hr=>two (hargs _ _ _ _ hr)) runs cap48 ha0 ha1 h
 rename_i n cs rd hsrc
 have rdlook:=aKj hsrc
 split at h
 ·-- nothing so far
  split at h
  ·refine ⟨.nils,[],st.nxt,rd,[],h,av _,fun i hi=> ?_,jF.nil,by simp,fun ρ T a w next Q hr hb _ _ _ hnext=> ?_⟩
   ·rcases hi with hi|hi
    ·exact rdlook i hi
    ·cases hi
   ·obtain ⟨y,y',h1,h2,h3⟩:=two (hargs ρ T a w hr)
    obtain ⟨news,hs,_⟩:=xQ hsrc hU h3 fun i hi=>hb i (.inl hi)
    have h2':y= .slice none 0 0:=h2
    subst h2'
    refine bR (runs h1 ?_) (hnext (.slice none 0 0) w ρ T (gX.pure rfl))
    rcases hs.kind with ⟨e',hk⟩|hk<;>simp [Builtin.append_,ha0,ha1,ej hT,ej hk,sizeOf,typeInfo,hinf,hs.len,hsz▸hs.cells]
  ·rename_i n
   obtain ⟨hc,h⟩:=If.elim h
   simp only [af,ak] at hc
   refine ⟨_,_,_,rd,[],h,by omega,fun i hi=> ?_,jF.one,fun i o' hi=> ?_,fun ρ T a w next Q hr hb _ hnm hnew hnext=> ?_⟩
   ·rcases hi with hi|hi
    ·exact rdlook i hi
    ·cases hi
   ·simp only [aq,bn] at hi
    right;omega
   ·obtain ⟨y,y',h1,h2,h3⟩:=two (hargs ρ T a w hr)
    obtain ⟨news,hs,hcs⟩:=xQ hsrc hU h3 fun i hi=>hb i (.inl hi)
    have h2':y= .slice none 0 0:=h2
    subst h2'
    have hrun:=fX (P:=P) w t u o.type e inf z hT hinf hz none 0 0 [] (run_firstCells_none w.drew inf.size 0 0 0) y' (n+1) news (hsz▸hs) (by omega) (by omega) (cap48 _ _ (by omega) (by simpa using hc.1)) c.argTypes ha0 ha1
    refine bR (runs h1 hrun) (hnext _ _ _ _ (gX.newB (b:=w.heap.size) (hnew st.nxt (av _) (by omega)) (bG.drewAlloc _ w _) (av _) (by rw [World.size_alloc];show w.heap.size<w.heap.size+1;omega) ?_ ?_))
    ·refine ⟨_,eS w.drew _,news,(Builtin.zeroCells z.cells (grownCap w (0+(n+1)) 0 e - (0+(n+1)))).toList,by simp, ?_⟩
     exact bB (WR (hnew st.nxt (av _) (by omega)) _) (B9 (av _)) (bG.drewAlloc T w _) _ _ hcs
    ·have hl:=hs.newsLen
     have hge:=grownCap_ge w (0+(n+1)) 0 e
     have hle:=grownCap_le_maxLen w (0+(n+1)) 0 e (by unfold maxLen;omega)
     refine ⟨w.heap.size,grownCap w (0+(n+1)) 0 e,by simp [eJ],by rw [bi,ce],by omega,by unfold maxLen at hle;omega,_,_,_,eS w.drew _, ?_⟩
     rw [ce,bi,ew,cg,dj,fD,hzs,hl,<- bp]
     exact bj _ (by omega)
 ·rename_i id0 off0
  split at h
  ·refine ⟨.arr id0 off0 0 0,[],st.nxt,rd,[],h,av _,fun i hi=> ?_,jF.nil,by simp,fun ρ T a w next Q hr hb _ _ _ hnext=> ?_⟩
   ·rcases hi with hi|hi
    ·exact rdlook i hi
    ·cases hi
   ·obtain ⟨y,y',h1,h2,h3⟩:=two (hargs ρ T a w hr)
    obtain ⟨news,hs,_⟩:=xQ hsrc hU h3 fun i hi=>hb i (.inl hi)
    obtain ⟨⟨b0,k1,rfl⟩,k2⟩:=h2
    have hnl:news=[]:=fg (by rw [hs.newsLen];simp)
    subst hnl
    refine bR (runs h1 ?_) (hnext (.slice (some ⟨b0,off0,none⟩) 0 0) w ρ T (gX.pure ⟨⟨b0,k1,rfl⟩,k2⟩))
    rcases hs.kind with ⟨e',hk⟩|hk<;>simp [Builtin.append_,ha0,ha1,ej hT,ej hk,sizeOf,typeInfo,hinf,hs.len,hsz▸hs.cells,storeCells]
  ·rename_i n
   obtain ⟨hc,h⟩:=If.elim h
   simp only [af,ak] at hc
   refine ⟨_,_,_,rd,[],h,by omega,fun i hi=> ?_,jF.one,fun i o' hi=> ?_,fun ρ T a w next Q hr hb _ hnm hnew hnext=> ?_⟩
   ·rcases hi with hi|hi
    ·exact rdlook i hi
    ·cases hi
   ·simp only [aq,bn] at hi
    right;omega
   ·obtain ⟨y,y',h1,h2,h3⟩:=two (hargs ρ T a w hr)
    obtain ⟨news,hs,hcs⟩:=xQ hsrc hU h3 fun i hi=>hb i (.inl hi)
    obtain ⟨⟨b0,k1,rfl⟩,_⟩:=h2
    have hrun:=fX (P:=P) w t u o.type e inf z hT hinf hz (some ⟨b0,off0,none⟩) 0 0 [] (run_firstCells_some w.drew inf.size 0 _ 0 0 [] (by simp) (fun j v hj=>by simp at hj)) y' (n+1) news (hsz▸hs) (by omega) (by omega) (cap48 _ _ (by omega) (by simpa using hc.1)) c.argTypes ha0 ha1
    refine bR (runs h1 hrun) (hnext _ _ _ _ (gX.newB (b:=w.heap.size) (hnew st.nxt (av _) (by omega)) (bG.drewAlloc _ w _) (av _) (by rw [World.size_alloc];show w.heap.size<w.heap.size+1;omega) ?_ ?_))
    ·refine ⟨_,eS w.drew _,news,(Builtin.zeroCells z.cells (grownCap w (0+(n+1)) 0 e - (0+(n+1)))).toList,by simp, ?_⟩
     exact bB (WR (hnew st.nxt (av _) (by omega)) _) (B9 (av _)) (bG.drewAlloc T w _) _ _ hcs
    ·have hl:=hs.newsLen
     have hge:=grownCap_ge w (0+(n+1)) 0 e
     have hle:=grownCap_le_maxLen w (0+(n+1)) 0 e (by unfold maxLen;omega)
     refine ⟨w.heap.size,grownCap w (0+(n+1)) 0 e,by simp [eJ],by rw [bi,ce],by omega,by unfold maxLen at hle;omega,_,_,_,eS w.drew _, ?_⟩
     rw [ce,bi,ew,cg,dj,fD,hzs,hl,<- bp]
     exact bj _ (by omega)
 ·-- onto one's own
  rename_i id sz len
  cases hg:Nat.beq sz te.size&& !(rd.any (Nat.beq id)) with
  |false=>rw [hg] at h;exact h.elim
  |true=>
  rw [hg] at h
  simp only [af,ar,dg] at hg h
  have hsize:=ai hg.1
  have hnot:id∉rd:=fun hi=>by
   have:=hg.2
   rw [List.any_eq_false] at this
   exact this id hi (fb _)
  split at h
  ·rename_i e'' css hl
   cases hg2:Nat.beq e'' e with
   |false=>rw [hg2] at h;exact h.elim
   |true=>
   rw [hg2] at h
   have hee:=ai hg2
   subst hee
   subst hsize
   obtain ⟨hc,h⟩:=If.elim (show If _ _ from h)
   simp only [af,ak] at hc
   obtain ⟨hc,hcl⟩:=hc
   refine ⟨_,_,_,_,_,h,by omega,fun i hi=> ?_, ?_,fun i o' hi=> ?_,fun ρ T a w next Q hr hb hinj hnm hnew hnext=> ?_⟩
   ·rcases hi with hi|hi
    ·rcases cb.1 hi with rfl|hi
     ·exact ⟨_,hl⟩
     ·exact rdlook i hi
    ·obtain rfl:=aq.1 hi
     exact ⟨_,hl⟩
   ·intro hst i x1 y1 hx1 hy1
    have hlt:=hst id _ hl
    simp only [cb,bn,cq,fy] at hx1 hy1
    rcases hx1 with ⟨h1,h2⟩|⟨h1,h2⟩<;>rcases hy1 with ⟨h3,h4⟩|⟨h3,h4⟩
    ·rw [h2,h4]
    ·omega
    ·omega
    ·rw [h2,h4]
   ·simp only [cb,bn,cq,fy] at hi
    rcases hi with hi|hi
    ·left;simp [hi.1]
    ·right;omega
   ·obtain ⟨y,y',h1,h2,h3⟩:=two (hargs ρ T a w hr)
    obtain ⟨news,hs,hcs⟩:=xQ hsrc hU h3 fun i hi=>hb i (.inl (bm _ hi))
    obtain ⟨b,cap,k1,hy2,k2,k3,vs0,e0,f0,k4,k5⟩:=h2
    rw [ce] at hy2
    subst hy2
    obtain ⟨sb,b',j1,j2,hTb,j4⟩:=hb id (.inl (bq ..))
    rw [hl] at j1;cases j1
    rw [k1] at j2;cases j2
    obtain ⟨vs,j5,m,r,j6,j7⟩:=j4
    rw [k4] at j5
    cases j5
    have hml:=bV j7
    have hnl:=hs.newsLen
    have hn0:=hnew st.nxt (av _) (by omega)
    have hvl:vs0.toList.length=vs0.size:=by simp
    have hbl:=hnm id b k1
    by_cases hroom:len+n<=cap
    ·have hcapm:(len+n)*te.size<=vs0.size:=fu (bj _ hroom) (by rw [ce,bi] at k5;exact k5)
     rw [bp] at hcapm
     have hrun:=o9 (P:=P) w t u o.type e'' e'' inf hT hinf b len cap y' n news (hsz▸hs) hroom k4 (by rw [hsz];omega) c.argTypes ha0 ha1
     rw [hsz] at hrun
     have hlen':(bI vs0.toList (len*te.size) news).length=vs0.toList.length:=gV (by omega)
     have hov:bI vs0.toList (len*te.size) news=(m++news)++r.drop news.length:=by
      unfold bI
      have hmm:m.length=len*te.size:=by omega
      rw [j6,<- hmm,List.take_left,show m.length+news.length=m.length+news.length from rfl,<- List.drop_drop,List.drop_left]
     have hG:bG (fun c=>c=b) w (bJ w b (bI vs0.toList (len*te.size) news).toArray e''):=
      bG.put k4 (by rw [cg,hlen'];simp) _ rfl
     have hGT:bG T w (bJ w b (bI vs0.toList (len*te.size) news).toArray e''):=hG.mono fun c _ hc=>by rw [hc];exact hTb
     refine bR (runs h1 hrun) (hnext _ _ _ _ (gX.turnB (b:=b) hn0 k1 hTb hG (.inl rfl) (by rw [nV];exact hbl) ?_ ?_))
     ·refine ⟨_,dY hbl,m++news,r.drop news.length,by simp [hov], ?_⟩
      exact bB (WR hn0 _) (fun c _ h=>by rcases h with h|rfl;exact h;exact hTb) hGT _ _ (gN j7 hcs)
     ·refine ⟨b,cap,by simp [eJ],by rw [ce],hroom,k3,_,_,_,dY hbl, ?_⟩
      rw [cg,hlen',hvl];exact k5
    ·have hold:(Builtin.firstCells inf.size len (.slice (some ⟨b,0,none⟩) len cap)).run P w.drew= .ok m.toArray w.drew:=by
      refine run_firstCells_some w.drew inf.size len ⟨b,0,none⟩ len cap m (by rw [hsz];omega) fun j u hj=> ?_
      rw [dL]
      have:w.drew.cell? ⟨b,0+j,none⟩=vs0[0+j]? :=fF (w:=w.drew) k4 _
      rw [this,bi]
      have hjm:j<m.length:=(ca.1 hj).1
      rw [<- bt,j6,fh hjm]
      exact hj
     have hrun:=fX (P:=P) w t u o.type e'' inf z hT hinf hz (some ⟨b,0,none⟩) len cap m hold y' n news (hsz▸hs) (by omega) (by omega) (cap48 _ _ (by omega) hc.1) c.argTypes ha0 ha1
     refine bR (runs h1 hrun) (hnext _ _ _ _ (gX.turnB (b:=w.heap.size) hn0 k1 hTb (bG.drewAlloc _ w _) (.inr (av _)) (by rw [World.size_alloc];show w.heap.size<w.heap.size+1;omega) ?_ ?_))
     ·refine ⟨_,eS w.drew _,m++news,(Builtin.zeroCells z.cells (grownCap w (len+n) cap e'' - (len+n))).toList,by simp, ?_⟩
      exact bB (WR hn0 _) (B9 (av _)) (bG.drewAlloc T w _) _ _ (gN j7 hcs)
     ·have hge:=grownCap_ge w (len+n) cap e''
      have hle:=grownCap_le_maxLen w (len+n) cap e'' (by unfold maxLen;omega)
      refine ⟨w.heap.size,grownCap w (len+n) cap e'',by simp [eJ],by rw [ce],by omega,by unfold maxLen at hle;omega,_,_,_,eS w.drew _, ?_⟩
      rw [ce,bi,ew,cg,au,fD,hzs,hnl,<- hml,hcl,<- bp,<- bp]
      exact bj _ (by omega)
  ·rename_i e'' sz' len' g hl
   cases hg2:Nat.beq e'' e&&(Nat.beq sz' sz&&(Nat.beq n 1&&(ids.idsL cs).isEmpty)) with
   |false=>
    rw [hg2] at h
    cases hid:(ids.idsL cs).isEmpty with
    |false=>rw [hid] at h;exact h.elim
    |true=>
     rw [hid] at h
     have hfl:=gl.1 hid
     exact sP (R:=some (n,fun i=>cut cs (i*te.size) te.size,rd,true)) hT (fun _ _ _ _ hR i hi=>by cases hR;exact rdlook i hi) (fun _ _ _ _ hR _ _ _ _ _ _ hr hb=>by
      cases hR
      obtain ⟨news,hs,hcs⟩:=xQ hsrc hU hr hb
      exact ⟨news,hs,hs.newsLen,fun i _=>gO _ _ (qT fun v hv=>yX hfl v (List.mem_of_mem_drop (List.mem_of_mem_take hv))) (jI (i*te.size) te.size hcs)⟩) hinf hsz hby hz hzs (fun hr=>two (hargs _ _ _ _ hr)) runs cap48 ha0 ha1 h
   |true=>
   rw [hg2] at h
   simp only [af,gl] at hg2
   have hee:=ai hg2.1
   have hss:=ai hg2.2.1
   have hn1:=ai hg2.2.2.1
   have hfl:=hg2.2.2.2
   subst hee
   subst hss
   subst hn1
   subst hsize
   obtain ⟨hc,h⟩:=If.elim (show If _ _ from h)
   simp only [af,ak] at hc
   obtain ⟨hc,hcl⟩:=hc
   subst hcl
   refine ⟨_,_,_,_,_,h,by omega,fun i hi=> ?_, ?_,fun i o' hi=> ?_,fun ρ T a w next Q hr hb hinj hnm hnew hnext=> ?_⟩
   ·rcases hi with hi|hi
    ·rcases cb.1 hi with rfl|hi
     ·exact ⟨_,hl⟩
     ·exact rdlook i hi
    ·obtain rfl:=aq.1 hi
     exact ⟨_,hl⟩
   ·intro hst i x1 y1 hx1 hy1
    have hlt:=hst id _ hl
    simp only [cb,bn,cq,fy] at hx1 hy1
    rcases hx1 with ⟨h1,h2⟩|⟨h1,h2⟩<;>rcases hy1 with ⟨h3,h4⟩|⟨h3,h4⟩
    ·rw [h2,h4]
    ·omega
    ·omega
    ·rw [h2,h4]
   ·simp only [cb,bn,cq,fy] at hi
    rcases hi with hi|hi
    ·left;simp [hi.1]
    ·right;omega
   ·obtain ⟨y,y',h1,h2,h3⟩:=two (hargs ρ T a w hr)
    obtain ⟨news,hs,hcs⟩:=xQ hsrc hU h3 fun i hi=>hb i (.inl (bm _ hi))
    obtain ⟨b,cap,k1,hy2,k2,k3,vs0,e0,f0,k4,k5⟩:=h2
    rw [ce] at hy2
    subst hy2
    obtain ⟨sb,b',j1,j2,hTb,j4⟩:=hb id (.inl (bq ..))
    rw [hl] at j1;cases j1
    rw [k1] at j2;cases j2
    obtain ⟨vs,j5,j6,j7⟩:=j4
    rw [k4] at j5
    cases j5
    have hnl:=hs.newsLen
    rw [cj] at hnl
    have hn0:=hnew st.nxt (av _) (by omega)
    have hvl:vs0.toList.length=vs0.size:=by simp
    have hbl:=hnm id b k1
    have hcs0:aX (fun _=>none) T w cs news:=gO _ _ hfl hcs
    have put: ∀(W:World) (T':Nat->Prop) (us:List Value),(∀i,i<len'->(us.drop (i*te.size)).take te.size=(vs0.toList.drop (i*te.size)).take te.size)->(us.drop (len'*te.size)).take te.size=news->
      (∀(a:List SV) (m:List Value),aX (fun _=>none) T w a m->aX (fun _=>none) T' W a m)->
      ∀i,i<len'+1->aX (fun _=>none) T' W (bK len' cs g i) ((us.drop (i*te.size)).take te.size):=by
     intro W T' us hu1 hu2 hm i hi
     by_cases hil:i=len'
     ·subst hil
      rw [show bK i cs g i=cs by simp [bK],hu2]
      exact hm _ _ hcs0
     ·rw [show bK len' cs g i=g i by simp [bK,hil],hu1 i (by omega)]
      exact hm _ _ (j7 i (by omega))
    have hisz: ∀i,i<len'->i*te.size+te.size<=len'*te.size:=fun i hi=>by
     have:(i+1)*te.size<=len'*te.size:=bj _ (by omega)
     rw [bp,cj] at this;exact this
    by_cases hroom:len'+1<=cap
    ·have hcapm:(len'+1)*te.size<=vs0.size:=fu (bj _ hroom) (by rw [ce,bi] at k5;exact k5)
     have hrun:=o9 (P:=P) w t u o.type e'' e'' inf hT hinf b len' cap y' 1 news (hsz▸hs) hroom k4 (by rw [hsz];rw [bp,cj] at hcapm;omega) c.argTypes ha0 ha1
     rw [hsz] at hrun
     rw [bp,cj] at hcapm
     have hlen':(bI vs0.toList (len'*te.size) news).length=vs0.toList.length:=gV (by omega)
     have hG:bG (fun c=>c=b) w (bJ w b (bI vs0.toList (len'*te.size) news).toArray e''):=
      bG.put k4 (by rw [cg,hlen'];simp) _ rfl
     have hGT:bG T w (bJ w b (bI vs0.toList (len'*te.size) news).toArray e''):=hG.mono fun c _ hc=>by rw [hc];exact hTb
     refine bR (runs h1 hrun) (hnext _ _ _ _ (gX.turnB (b:=b) hn0 k1 hTb hG (.inl rfl) (by rw [nV];exact hbl) ?_ ?_))
     ·refine ⟨_,dY hbl,by rw [cg,hlen',hvl,bp,cj];exact hcapm, ?_⟩
      refine put _ _ _ (fun i hi=> ?_) ?_ fun a m hm=>bB (fun _ _ h=>h) (fun c _ h=>by rcases h with h|rfl;exact h;exact hTb) hGT _ _ hm
      ·have:=hisz i hi
       apply gr
       intro k
       rw [br,bu,nJ (by omega),br,bu]
       by_cases hk:k<te.size
       ·simp only [if_pos hk]
        rw [if_pos (by omega)]
       ·simp only [if_neg hk]
      ·apply gr
       intro k
       rw [br,bu,nJ (by omega)]
       by_cases hk:k<te.size
       ·rw [if_pos hk,if_neg (by omega),if_pos (by omega)];congr 1;omega
       ·rw [if_neg hk,dy (by omega)]
     ·refine ⟨b,cap,by simp [eJ],by rw [ce],hroom,k3,_,_,_,dY hbl, ?_⟩
      rw [cg,hlen',hvl];exact k5
    ·have hm0:(vs0.toList.take (len'*te.size)).length=len'*te.size:=by rw [du];omega
     have hold:(Builtin.firstCells inf.size len' (.slice (some ⟨b,0,none⟩) len' cap)).run P w.drew= .ok (vs0.toList.take (len'*te.size)).toArray w.drew:=by
      refine run_firstCells_some w.drew inf.size len' ⟨b,0,none⟩ len' cap _ (by rw [hsz,hm0]) fun j u hj=> ?_
      rw [dL]
      have:w.drew.cell? ⟨b,0+j,none⟩=vs0[0+j]? :=fF (w:=w.drew) k4 _
      rw [this,bi]
      rw [br] at hj
      split at hj
      ·rw [<- bt];exact hj
      ·cases hj
     have hrun:=fX (P:=P) w t u o.type e'' inf z hT hinf hz (some ⟨b,0,none⟩) len' cap _ hold y' 1 news (hsz▸hs) (by omega) (by omega) (cap48 _ _ (by omega) hc.1) c.argTypes ha0 ha1
     refine bR (runs h1 hrun) (hnext _ _ _ _ (gX.turnB (b:=w.heap.size) hn0 k1 hTb (bG.drewAlloc _ w _) (.inr (av _)) (by rw [World.size_alloc];show w.heap.size<w.heap.size+1;omega) ?_ ?_))
     ·refine ⟨_,eS w.drew _, ?_, ?_⟩
      ·rw [ew,cg,au,hm0,hnl,bp,cj];omega
      ·refine put _ _ _ (fun i hi=> ?_) ?_ fun a m hm=>bB (fun _ _ h=>h) (B9 (av _)) (bG.drewAlloc T w _) _ _ hm
       ·have:=hisz i hi
        simp only [fd,bo]
        rw [di (by rw [hm0];omega),da (by rw [dc,hm0];omega)]
        apply gr
        intro k
        rw [br,bu,br,br,bu]
        by_cases hk:k<te.size
        ·simp only [if_pos hk]
         rw [if_pos (by omega)]
        ·simp only [if_neg hk]
       ·simp only [fd,bo]
        rw [List.drop_append,hm0,Nat.sub_self,gq,List.drop_eq_nil_of_le (by rw [hm0];exact av _),dj,da (by omega),gc (by omega)]
     ·have hge:=grownCap_ge w (len'+1) cap e''
      have hle:=grownCap_le_maxLen w (len'+1) cap e'' (by unfold maxLen;omega)
      refine ⟨w.heap.size,grownCap w (len'+1) cap e'',by simp [eJ],by rw [ce],by omega,by unfold maxLen at hle;omega,_,_,_,eS w.drew _, ?_⟩
      rw [ce,bi,ew,cg,au,fD,hzs,hnl,hm0]
      have:grownCap w (len'+1) cap e''*te.size=(len'+1)*te.size+(grownCap w (len'+1) cap e'' - (len'+1))*te.size:=by rw [<- bp];congr 1;omega
      rw [this,bp,cj];omega
  ·exact h.elim
 ·exact h.elim
end
end Go.Se
namespace Go.Se
variable {P:Program}
theorem aAm{ρ:aL}{T:Nat->Prop}{w:World}{c:List SV}{m:List Value}(h:uU c=true)(hr:aX ρ T w c m):m=[.int .u8 (FJ c)]:=by
 unfold uU at h
 split at h
 ·obtain ⟨v,r,rfl,⟨rfl,_⟩,h2⟩:=hr
  have h2':r=[]:=h2
  subst h2';rfl
 ·cases h
theorem wL{T:Nat->Prop}{w:World}{b off:Nat}{g:Nat->List SV}: ∀(n:Nat),(∀i,i<n->uU (g i)=true)->(∀i,i<n->fJ T w (g i) b (off+i*1))->
  ∃news:List Value,news=(oR n g).map (fun x=>Value.int .u8 x)/\ ∀j u,news[j]? =some u->w.cell? ⟨b,off+j,none⟩=some u
 |0,_,_=>⟨[],by simp [oR],fun j u h=>by simp at h⟩
 |n+1,hb,h=>by
  obtain ⟨news,h1,h2⟩:=wL n (fun i hi=>hb i (by omega)) (fun i hi=>h i (by omega))
  obtain ⟨m,h5,h6⟩:=xU (g n) _ (h n (by omega))
  have hm:=aAm (hb n (by omega)) h5
  have hl:news.length=n:=by rw [h1];simp [oR]
  refine ⟨news++m,by rw [h1,hm];simp [oR,List.range_succ],fun j u hj=> ?_⟩
  rw [List.getElem?_append] at hj
  split at hj
  ·exact h2 j u hj
  ·have:=h6 _ u hj
   rw [show off+j=off+n*1+(j - news.length) by omega];exact this
theorem gX.turnIn {ρ:aL} {T:Nat->Prop} {w w':World} {n id b:Nat} {o:Option SB} {v:SV} {x:Value} (hid:ρ id=some b) (hT:T b) (hG:bG (fun c=>c=b) w w')
  (hB: ∀sb,o=some sb->fV ρ T w' sb b) (hv:rel ρ T w' v x):gX ρ T w n n v [(id,o)] [id] ρ T w' x where
 names:=fun _ _ h=>h
 only:=fun _ _ h=> .inl h
 val:=hv
 turned:=fun i sb hi=>by
  simp only [aq,bn] at hi
  obtain ⟨rfl,h⟩:=hi
  exact ⟨b,hid,hT,hB sb h.symm⟩
 keys:=fun i ob hi=>by
  simp only [aq,bn] at hi
  left;simp [hi.1]
 cover:=fun i hi=>by obtain rfl:=aq.1 hi;exact ⟨_,aq.2 rfl⟩
 fresh:=fun i b h1 h2 _=>by omega
 inj:=fun i j b _ h1 h2 _ _ _=>by omega
 grow:=hG.mono fun c _ hc=>⟨id,by simp,by rw [hc];exact hid⟩
 tback:=fun _ _ h=>h
 below:=fun i b h1 h2 _=>by omega
 tkeep:=fun _ _ h=> .inl h
theorem UF{l news:List Value}{off m sz:Nat}(hn:news.length=m*sz)(hfit:(off+m)*sz<=l.length)(i:Nat):
  ((bI l (off*sz) news).drop (i*sz)).take sz=if off<=i/\i<off+m then (news.drop ((i - off)*sz)).take sz else (l.drop (i*sz)).take sz:=by
 rw [bp] at hfit
 have hf:off*sz+news.length<=l.length:=by omega
 apply gr
 intro k
 rw [br]
 by_cases hk:k<sz
 ·rw [if_pos hk,bu,nJ hf]
  by_cases hi:off<=i/\i<off+m
  ·rw [if_pos hi]
   have h1:off*sz<=i*sz:=bj _ hi.1
   have h2:(i+1)*sz<=(off+m)*sz:=bj _ hi.2
   rw [bp,bp,cj] at h2
   rw [if_neg (by omega),if_pos (by omega),br,if_pos hk,bu,Nat.sub_mul]
   congr 1;omega
  ·rw [if_neg hi,br,if_pos hk,bu]
   by_cases h0:i<off
   ·have h2:(i+1)*sz<=off*sz:=bj _ h0
    rw [bp,cj] at h2
    rw [if_pos (by omega)]
   ·have h2:(off+m)*sz<=i*sz:=bj _ (by omega)
    rw [bp] at h2
    rw [if_neg (by omega),if_neg (by omega)]
 ·rw [if_neg hk]
  split<;>rw [br,if_neg hk]
section
variable {st:St} {o:Oper} {K:KV} {env:Env} (htt: ∀t ti,env.tt t=some ti->gJ P t ti)
theorem aCY{size n:Nat}{x:SV}{g:Nat->List SV}{rd:List Nat}{c:Bool}(h:rowAt st size x=some (n,g,rd,c)): ∀i,i∈rd-> ∃sb,aO st.store i=some sb:=by
 intro i hi
 unfold rowAt at h
 split at h
 ·rename_i id n' cap
  split at h
  ·rename_i e cs hl
   cases hc:(ids.idsL cs).isEmpty with
   |false=>rw [hc] at h;cases h
   |true=>
    rw [hc] at h;cases h
    obtain rfl:=aq.1 hi
    exact ⟨_,hl⟩
  ·cases h
 ·rename_i id off sz n'
  split at h
  ·rename_i e1 sz' len g' hl
   cases hc:Nat.beq sz size&&Nat.beq sz' size with
   |false=>rw [hc] at h;cases h
   |true=>
    rw [hc] at h
    cases h
    obtain rfl:=aq.1 hi
    exact ⟨_,hl⟩
  ·cases h
 ·cases h
theorem aEz {size n:Nat} {x:SV} {g:Nat->List SV} {rd:List Nat} {c:Bool} (h:rowAt st size x=some (n,g,rd,c)) (hc:c=true) {ρ:aL} {T:Nat->Prop} {w:World} {y:Value}
  (hr:rel ρ T w x y) (hb: ∀i,i∈rd-> ∃sb b,aO st.store i=some sb/\ρ i=some b/\T b/\fV ρ T w sb b):
  n<9223372036854775808/\ ∃b off cap,y= .slice (some ⟨b,off,none⟩) n cap/\ ∀i,i<n->fJ T w (g i) b (off+i*size):=by
 unfold rowAt at h
 split at h
 ·rename_i id n' cap
  split at h
  ·rename_i e cs hl
   cases he:(ids.idsL cs).isEmpty with
   |false=>rw [he] at h;cases h
   |true=>
    rw [he] at h;cases h
    have he':ids.idsL cs=[]:=by simpa using he
    obtain ⟨⟨b,k1,rfl⟩,k2⟩:=hr
    obtain ⟨sb,b',j1,j2,_,j4⟩:=hb id (by simp)
    rw [hl] at j1;cases j1
    rw [k1] at j2;cases j2
    obtain ⟨vs,m1,m2⟩:=j4
    refine ⟨k2,b,0,cap,rfl,fun i hi=> ?_⟩
    have:=jI (i*size) size m2
    refine eV (gO _ _ (qT fun v hv=>yX he' v (List.mem_of_mem_drop (List.mem_of_mem_take hv))) this) fun j c hj=> ?_
    rw [fF m1]
    rw [br] at hj
    split at hj
    ·rw [bu,bt] at hj
     rw [bi];exact hj
    ·cases hj
  ·cases h
 ·rename_i id off sz n'
  split at h
  ·rename_i e1 sz' len g' hl
   cases he:Nat.beq sz size&&Nat.beq sz' size with
   |false=>rw [he] at h;cases h
   |true=>
    rw [he] at h
    cases h
    simp only [af] at he
    obtain rfl:=ai he.1
    obtain rfl:=ai he.2
    have hlen:=aa hc
    obtain ⟨b,cap,k1,rfl,k2,k3,_⟩:=hr
    obtain ⟨sb,b',j1,j2,_,j4⟩:=hb id (by simp)
    rw [hl] at j1;cases j1
    rw [k1] at j2;cases j2
    obtain ⟨vs,m1,m2,m3⟩:=j4
    refine ⟨by omega,b,_,cap,rfl,fun i hi=> ?_⟩
    refine eV (m3 (i+off) (by omega)) fun j c hj=> ?_
    rw [fF m1]
    rw [br] at hj
    split at hj
    ·rw [bu,bt] at hj
     rw [show off*sz'+i*sz'+j=(i+off)*sz'+j by rw [bp];omega];exact hj
    ·cases hj
  ·cases h
 ·cases h
include htt
theorem VJ {c:Call} {t u:TypeId} {x y:SV} {ts:List TypeId} (hexec: ∀(a:Act),execOp a.eval o=Go.builtin .copy c.argTypes o.type (c.args.map fun| .const _=>true|_=>false) (c.args.map a.eval))
  (hargs: ∀(ρ:aL) (T:Nat->Prop) (a:Act) (w:World),(∀x,x∈o.op.operands->rel ρ T w (eval st.tmps x) (a.eval x))->aX ρ T w [x,y] (c.args.map a.eval).toList)
  (hts:c.argTypes.toList=t::u::ts) {ti te:TI} {e:TypeId} (ht:env.tt t=some ti) (hk:ti.kind= .slice e) (hte:env.tt e=some te) {id off len sz sz' len' n:Nat} {e':TypeId} {g h:Nat->List SV} {rd:List Nat} {q:Bool}
  (hx:x= .own id off sz len) (hsz:sz=te.size) (hl:aO st.store id=some (.row e' sz len' g)) (hy:rowAt st sz y=some (n,h,rd,q)) (hz:sz'=sz)
  (hgood: ∀i,i<n->(h i).length=sz/\(h i).all bE=true) (hq:q=true) (hfit:off+len<=len')
  (hK:K (.int .i64 (Nat.min n len)) [(id,some (.row e' sz len' (vE off (Nat.min n len) h g)))] st.nxt rd [id]):cD P st o K:=by
 subst hz
 subst hx
 have ha0:c.argTypes[0]? =some t:=by rw [<- bt,hts];rfl
 have hT:=cK (htt _ _ ht) hk
 have rdlook:=aCY hy
 refine ⟨_,_,_,_,_,hK,av _, ?_,jF.one,by simp,fun ρ T a w next Q hr hb _ _ _ hnext=> ?_⟩
 ·intro i hi
  rcases hi with hi|hi
  ·exact rdlook i hi
  ·obtain rfl:=aq.1 hi
   exact ⟨_,hl⟩
 ·obtain ⟨v1,r1,e1,h1,v2,r2,e2,h2,e3⟩:=hargs ρ T a w hr
  have e3':r2=[]:=e3
  subst e3';subst e2
  have hag:c.args.map a.eval= #[v1,v2]:=by apply fw;exact e1
  obtain ⟨b,cap,j1,rfl,j2,j3,vs0,e0,f0,j4,j5⟩:=h1
  obtain ⟨hn63,b2,o2,cap2,rfl,hat⟩:=aEz hy hq h2 fun i hi=>hb i (.inl hi)
  obtain ⟨sb,b',k1,k2,hTb,k4⟩:=hb id (.inr (by simp))
  rw [hl] at k1;cases k1
  rw [j1] at k2;cases k2
  obtain ⟨vs,l1,l2,l3⟩:=k4
  generalize hm:Nat.min n len=m at*
  have hmn:m<=n:=by rw [<- hm];exact Nat.min_le_left _ _
  have hml:m<=len:=by rw [<- hm];exact Nat.min_le_right _ _
  obtain ⟨news,m1,m2,m3,m4⟩:=AB m (fun i hi=>hat i (by omega)) (fun i hi=>hgood i (by omega))
  have hfit2:(off+m)*sz'<=vs.toList.length:=by
   have:(off+m)*sz'<=len'*sz':=bj _ (by omega)
   rw [fe];omega
  have hfit3:=hfit2
  rw [bp] at hfit3
  have hst:=gT (P:=P) (o:=off*sz') news 0 vs w l1 (by rw [fe] at hfit3;omega) m3
  have hu1: ∀w,(Go.underlying t).run P w= .ok (.slice e) w:=ej hT
  have hfc:=run_firstCells_some (P:=P) w sz' m ⟨b2,o2,none⟩ n cap2 news m1 (fun j v hj=>by rw [dL];exact m2 j v hj)
  have hrun:(execOp a.eval o).run P w= .ok (.value (.int .i64 m)) (bJ w b (bI vs.toList (off*sz') news).toArray e'):=by
   rw [hexec,hag]
   show (do Pure.pure (Next.value (<- Builtin.copy_ c.argTypes o.type #[_,_]))).run P _=_
   have:(Builtin.copy_ c.argTypes o.type #[.slice (some ⟨b,off*sz',none⟩) len cap,.slice (some ⟨b2,o2,none⟩) n cap2]).run P w= .ok (.int .i64 m) (bJ w b (bI vs.toList (off*sz') news).toArray e'):=by
    simp only [Builtin.copy_,ha0,List.getElem?_toArray,cv,ff,Sem.run_bind,hu1,Result.andThen_ok,Builtin.lenOf,Sem.run_pure,(htt _ _ hte).sizeOf,<- hsz,hm,hfc]
    rw [hst]
    simp [goInt]
   rw [Sem.run_bind,this];rfl
  have hG:bG (fun c=>c=b) w (bJ w b (bI vs.toList (off*sz') news).toArray e'):=
   bG.put l1 (by rw [cg,gV (by omega)];simp) _ rfl
  have hGT:bG T w (bJ w b (bI vs.toList (off*sz') news).toArray e'):=
   hG.mono fun c _ hc=>by rw [hc];exact hTb
  refine bR hrun (hnext _ _ ρ T (gX.turnIn j1 hTb hG (fun sb hsb=> ?_) ⟨rfl, ?_⟩))
  ·cases hsb
   refine ⟨_,dY (bk.1 l1).1,by rw [cg,gV (by omega),fe];exact l2,fun i hi=> ?_⟩
   have hc:=UF m1 hfit2 i
   rw [show (bI vs.toList (off*sz') news).toArray.toList=bI vs.toList (off*sz') news from by simp,hc]
   refine bB (fun _ _ h=>h) (fun _ _ h=>h) hGT _ _ ?_
   unfold vE
   by_cases hi2:off<=i/\i<off+m
   ·rw [if_pos hi2,show (Nat.ble off i&&Nat.blt i (off+m))=true by simp [hi2.1,hi2.2]]
    exact m4 (i - off) (by omega)
   ·rw [if_neg hi2,show (Nat.ble off i&&Nat.blt i (off+m))=false by
     rw [cf];intro hh;simp only [af] at hh;exact hi2 ⟨cd hh.1,by simpa using hh.2⟩]
    exact l3 i hi
  ·show (-9223372036854775808:Int)<=_/\_<=(9223372036854775807:Int);omega
theorem yW {c:Call} {t u:TypeId} {p n:SV} (hexec: ∀(a:Act),execOp a.eval o=Go.builtin .unsafeString c.argTypes o.type (c.args.map fun| .const _=>true|_=>false) (c.args.map a.eval))
  (hargs: ∀(ρ:aL) (T:Nat->Prop) (a:Act) (w:World),(∀x,x∈o.op.operands->rel ρ T w (eval st.tmps x) (a.eval x))->aX ρ T w [p,n] (c.args.map a.eval).toList)
  (hts:c.argTypes.toList=[t,u]) (h:rF env t p n st K):cD P st o K:=by
 have hats:c.argTypes= #[t,u]:=by apply fw;exact hts
 unfold rF at h
 split at h
 ·rename_i k m
  obtain ⟨h0,h⟩:=If.elim h
  have h0:=aa h0
  subst h0
  refine cD.pure h (gY.pure fun ρ T a w hr=> ?_)
  obtain ⟨v1,r1,e1,h1,v2,r2,e2,h2,e3⟩:=hargs ρ T a w hr
  have e3':r2=[]:=e3
  subst e3';subst e2
  have hag:c.args.map a.eval= #[v1,v2]:=by apply fw;exact e1
  have h1':v1= .pointer none:=h1
  subst h1'
  obtain ⟨rfl,_⟩:=h2
  refine ⟨.string .empty, ?_,rfl,by decide⟩
  rw [hexec,hag,hats]
  show (do Pure.pure (Next.value (<- Builtin.unsafeString_ #[t,u] o.type #[_,_]))).run P _=_
  have:(Builtin.unsafeString_ #[t,u] o.type #[.pointer none,.int k 0]).run P w= .ok (.string .empty) w:=by
   have hdef:Builtin.unsafeString_ #[t,u] o.type #[.pointer none,.int k 0]=
     (do
      let n<- asInt (.int k 0)
      if n<0 then runtimePanic (.error "unsafe.String: len out of range")
      if n>IntKind.i64.max then unsupported (.unsafePointer "String: a length above the largest int")
      if n=0 then pure (.string .empty)
      else runtimePanic (.error "unsafe.String: ptr is nil and len is not zero")):=rfl
   have hmax:IntKind.i64.max=9223372036854775807:=rfl
   rw [hdef]
   simp [asInt,asIntOf,hmax]
  rw [Sem.run_bind,this];rfl
 ·rename_i id m
  split at h
  case h_2=>exact h.elim
  rename_i ti ht
  split at h
  case h_2=>exact h.elim
  rename_i e hk
  split at h
  case h_2=>exact h.elim
  rename_i e' sz len g hl
  generalize hte:env.tt e=q at h
  cases q with
  |none=>rw [show (Nat.beq sz 1&&(Nat.beq e' e&&false))=false by simp] at h;exact h.elim
  |some te=>
  cases hc:Nat.beq sz 1&&(Nat.beq e' e&&Nat.beq te.size 1) with
  |false=>rw [hc] at h;exact h.elim
  |true=>
  rw [hc] at h
  simp only [af] at hc
  obtain rfl:=ai hc.1
  obtain rfl:=ai hc.2.1
  have hs1:=ai hc.2.2
  obtain ⟨hby,h⟩:=(show _/\If _ _ from h)
  obtain ⟨hlt,h⟩:=If.elim h
  simp only [af,ak] at hlt
  obtain ⟨⟨n0,n1⟩,n2⟩:=hlt
  obtain ⟨k,rfl⟩: ∃k:Nat,m=(k:Int):=⟨m.toNat,by omega⟩
  rw [am] at hby h
  obtain ⟨⟨inf,hinf,hsz,_⟩,_,_⟩:=htt _ _ hte
  have hcells:P.cellsOf e'=1:=by unfold Program.cellsOf;rw [hinf];show inf.size=1;omega
  refine ⟨_,_,_,_,_,h,av _, ?_,jF.one,by simp,fun ρ T a w next Q hr hb _ _ _ hnext=> ?_⟩
  ·intro i hi
   simp only [aq,or_self] at hi
   subst hi;exact ⟨_,hl⟩
  ·obtain ⟨v1,r1,e1,h1,v2,r2,e2,h2,e3⟩:=hargs ρ T a w hr
   have e3':r2=[]:=e3
   subst e3';subst e2
   have hag:c.args.map a.eval= #[v1,v2]:=by apply fw;exact e1
   obtain ⟨b,j1,rfl⟩:=h1
   obtain ⟨rfl,_⟩:=h2
   obtain ⟨sb,b',k1,k2,hTb,k4⟩:=hb id (.inr (by simp))
   rw [hl] at k1;cases k1
   rw [j1] at k2;cases k2
   obtain ⟨vs,l1,l2,l3⟩:=k4
   have hat: ∀i,i<k->fJ T w (g i) b (0+i*1):=fun i hi=>eV (l3 i (by omega)) fun j c hj=>by
    rw [fF l1]
    rw [br] at hj
    split at hj
    ·rw [bu,bt] at hj
     rw [bi];exact hj
    ·cases hj
   obtain ⟨news,h9,h10⟩:=wL k hby hat
   let L:List UInt8:=(oR k g).map fun n=>UInt8.ofNat n.toNat
   have hL:L.length=k:=by simp [L,oR]
   have hnews: ∀(j:Nat) (x:UInt8),L[j]? =some x->news[j]? =some (Value.int .u8 x.toNat):=by
    intro j x hj
    have hjk:j<k:=by rw [<- hL];exact (ca.1 hj).1
    have hr8:0<=FJ (g j)/\FJ (g j)<=255:=by
     have:=l3 j (by omega)
     have hb8:=hby j hjk
     unfold uU at hb8
     split at hb8
     ·rename_i q hq
      rw [hq] at this
      obtain ⟨v,r,_,⟨_,h5⟩,_⟩:=this
      rw [hq];exact h5
     ·cases hb8
    rw [h9]
    simp only [L,oR,fm,List.getElem?_range hjk,dq,an] at hj|-
    rw [<- hj]
    congr 1
    have:(UInt8.ofNat (FJ (g j)).toNat).toNat=(FJ (g j)).toNat:=by
     rw [UInt8.toNat_ofNat'];omega
    rw [this];omega
   have hrun0:=Lib.run_unsafeString_row (P:=P) w t u o.type e' (oJ (htt _ _ ht) hk) hcells b vs.size (by unfold World.shape?;rw [l1]) L (by intro h0;rw [h0] at hL;simp at hL;omega) (by omega) (by omega)
    (fun j x hj=>by rw [dL];exact h10 j _ (hnews j x hj))
   rw [hL] at hrun0
   have hrun:(execOp a.eval o).run P w= .ok (.value (.string (bytesOf (oR k g)))) (w.freeze ⟨b,0,none⟩ k):=by
    rw [hexec,hag,hats]
    show (do Pure.pure (Next.value (<- Builtin.unsafeString_ #[t,u] o.type #[_,_]))).run P _=_
    rw [Sem.run_bind,hrun0];rfl
   have hfz:w.freeze ⟨b,0,none⟩ k={w with heap:=w.heap.modify b fun
     | .cells c elem (lo,hi)=> .cells c elem (if lo==hi then (0,0+k) else (min lo 0,max hi (0+k)))
     |o=>o}:=by
    unfold World.freeze;rw [if_neg (by omega)];rfl
   have hG:bG (fun c=>c=b) w (w.freeze ⟨b,0,none⟩ k):=by
    rw [hfz]
    exact {
     size:=by simp
     same:=fun c hc hn=>by
      show (w.heap.modify b _)[c]? =_
      rw [Array.getElem?_modify,if_neg (fun e=>hn e.symm)]
     shape:=fun c vs1 e1 f1 hc=>by
      show∃vs' f',(w.heap.modify b _)[c]? =some (.cells vs' e1 f')/\_
      rw [Array.getElem?_modify,hc]
      by_cases hcb:b=c
      ·rw [if_pos hcb];obtain ⟨lo,hi⟩:=f1;exact ⟨_,_,rfl,rfl⟩
      ·rw [if_neg hcb];exact ⟨_,_,rfl,rfl⟩
     os:=rfl
     output:=rfl
     tape:=rfl}
   refine bR hrun (hnext _ _ ρ T (gX.turnIn j1 hTb hG (fun sb hsb=>by cases hsb) ⟨rfl, ?_⟩))
   have:(bytesOf (oR k g)).size=(oR k g).length:=by simp [bytesOf,ByteArray.size]
   rw [this];simp [oR];omega
 ·exact h.elim
omit htt in
theorem FL {c:Call} {ts:List TypeId} {x:SV} (hexec: ∀(a:Act),execOp a.eval o=Go.builtin .unsafeSliceData c.argTypes o.type (c.args.map fun| .const _=>true|_=>false) (c.args.map a.eval))
  (hargs: ∀(ρ:aL) (T:Nat->Prop) (a:Act) (w:World),(∀x,x∈o.op.operands->rel ρ T w (eval st.tmps x) (a.eval x))->aX ρ T w [x] (c.args.map a.eval).toList)
  (_hts:c.argTypes.toList=ts) (h:xV x fun v=>K v [] st.nxt [] []):cD P st o K:=by
 unfold xV at h
 have hx1: ∀{ρ:aL} {T:Nat->Prop} {a:Act} {w:World},(∀x,x∈o.op.operands->rel ρ T w (eval st.tmps x) (a.eval x))-> ∃v,c.args.map a.eval= #[v]/\rel ρ T w x v:=fun hr=>by
  obtain ⟨v1,r1,e1,h1,e3⟩:=hargs _ _ _ _ hr
  have e3':r1=[]:=e3
  subst e3'
  exact ⟨v1,by apply fw;exact e1,h1⟩
 split at h
 ·refine cD.pure h (gY.pure fun ρ T a w hr=> ?_)
  obtain ⟨v,hag,h1⟩:=hx1 hr
  have h1':v= .slice none 0 0:=h1
  subst h1'
  refine ⟨.pointer none, ?_,rfl⟩
  rw [hexec,hag];rfl
 ·rename_i id sz n
  obtain ⟨h0,h⟩:=If.elim h
  have h0:=aa h0
  refine cD.pure h (gY.pure fun ρ T a w hr=> ?_)
  obtain ⟨v,hag,h1⟩:=hx1 hr
  obtain ⟨b,cap,j1,rfl,j2,_⟩:=h1
  refine ⟨.pointer (some ⟨b,0,none⟩), ?_,b,j1,rfl⟩
  rw [hexec,hag]
  show (do Pure.pure (Next.value (<- Builtin.unsafeSliceData_ c.argTypes o.type #[_]))).run P _=_
  rw [Sem.run_bind,ce,Lib.run_unsafeSliceData_row (P:=P) w _ _ _ _ _ (by omega)];rfl
 ·exact h.elim
end
end Go.Se
