import Derived.Test.YtghnfjfkjhbgdaaGreatDoorZA
import Derived.Laws.MakeOwn
import Derived.ProofKit
import Derived.OpenShut
import Derived.Below
import Derived.ChangeSame
import Derived.Carry
import Derived.Laws.Externs
namespace Go.Se
variable {P:Program}
theorem zV{ρ:aG}{T:Nat->Prop}{w:World}{k:IntKind}: ∀(l:List SV) (up:Bool) (a n:Int) (vs:List Value),UA k up a l=some n->aQ ρ T w l vs->
  k.min<=a/\a<=k.max->
  (vs.foldlM (if up then Builtin.max2 else Builtin.min2) (.int k a)).run P w= .ok (.int k n) w/\k.min<=n/\n<=k.max
 | [],up,a,n,vs,h,hv,ha=>by
  simp only [UA,Option.some.injEq] at h
  subst h;rw [hv];exact ⟨rfl,ha⟩
 |x::l,up,a,n,vs,h,⟨y,r,h1,h2,h3⟩,ha=>by
  cases x<;>simp only [UA,reduceCtorEq] at h
  rename_i j b
  cases hj:decide (j=k) with
  |false=>rw [hj] at h;cases h
  |true=>
   rw [hj] at h
   obtain rfl:=of_decide_eq_true hj
   simp only [cond_true] at h
   obtain ⟨rfl,hb⟩:=h2
   subst h1
   cases up
   ·simp only [cond_false] at h
    obtain ⟨h4,h5⟩:=zV l false _ n r h h3 (by split<;>assumption)
    refine ⟨?_,h5⟩
    simp only [Bool.false_eq_true,if_false,List.foldlM_cons,Sem.run_bind] at h4|-
    simp only [Builtin.min2,Sem.run_pure,Result.andThen_ok]
    exact h4
   ·simp only [cond_true] at h
    obtain ⟨h4,h5⟩:=zV l true _ n r h h3 (by split<;>assumption)
    refine ⟨?_,h5⟩
    simp only [if_true,List.foldlM_cons,Sem.run_bind] at h4|-
    simp only [Builtin.max2,Sem.run_pure,Result.andThen_ok]
    exact h4
section
variable {st:St} {o:Oper} {K:KV} {env:Env} (htt: ∀t ti,env.tt t=some ti->eL P t ti)
include htt
omit htt in
theorem HL{ρ:aG}{T:Nat->Prop}{w:World}(s:ByteArray)(n:Nat):aQ ρ T w (CU s n) ((s.data.toList.take n).map fun b=>Value.int .u8 b.toNat):=by
 unfold CU
 generalize s.data.toList.take n=l
 induction l with
 |nil=>rfl
 |cons b l ih=>exact ⟨_,_,rfl,⟨rfl,by have:=b.toNat_lt;show (0:Int)<=_/\_<=(255:Int);omega⟩,ih⟩
theorem R8 {c:Call} {t u:TypeId} {x y:SV} {ts:List TypeId} (hexec: ∀(a:Act),execOp a.eval o=Go.builtin .copy c.argTypes o.type (c.args.map fun| .const _=>true|_=>false) (c.args.map a.eval))
  (hargs: ∀(ρ:aG) (T:Nat->Prop) (a:Act) (w:World),(∀x,x∈o.op.operands->rel ρ T w (eval st.tmps x) (a.eval x))->aQ ρ T w [x,y] (c.args.map a.eval).toList)
  (hts:c.argTypes.toList=t::u::ts) (h:YP env t u x y st K):bR P st o K:=by
 have ha0:c.argTypes[0]? =some t:=by rw [<- Array.getElem?_toList,hts];rfl
 unfold YP at h
 split at h
 case h_2=>exact h.elim
 rename_i ti tu ht hu
 split at h
 case h_3=>exact h.elim
 case h_2=>
  rename_i e ek id off sz len hk hk'
  split at h
  case h_2=>exact h.elim
  rename_i te hte
  cases hs:Nat.beq sz te.size with
  |false=>rw [hs] at h;exact h.elim
  |true=>
  rw [hs] at h
  simp only [cond_true] at h
  split at h
  case h_2=>exact h.elim
  rename_i e' sz' len' g n g2 rd q hl hy
  cases hz:Nat.beq sz' sz with
  |false=>rw [hz] at h;exact h.elim
  |true=>
  rw [hz] at h
  obtain rfl:=Nat.eq_of_beq_eq_true hz
  obtain ⟨hg,h⟩:=(show _/\If _ _ from h)
  obtain ⟨hc,h⟩:=If.elim h
  simp only [Bool.and_eq_true,decide_eq_true_eq] at hc
  exact OJ htt hexec hargs hts ht hk hte rfl (Nat.eq_of_beq_eq_true hs) hl hy rfl hg hc.1 hc.2 h
 rename_i e id off len cap s hk hk'
 split at h
 case h_2=>exact h.elim
 rename_i te hte
 have hT:=cA (htt _ _ ht) hk
 cases hs1:Nat.beq te.size 1 with
 |false=>rw [hs1] at h;exact h.elim
 |true=>
 rw [hs1] at h
 simp only [cond_true] at h
 split at h
 case h_2=>exact h.elim
 rename_i e' cs hl
 split at h
 case h_2=>exact h.elim
 rename_i cs' hp
 refine ⟨_,_,_,_,_,h,Nat.le_refl _, ?_,gK.one,by simp,fun ρ T a w next Q hr hb _ _ _ hnext=> ?_⟩
 ·intro i hi
  simp only [List.mem_singleton,List.not_mem_nil,false_or] at hi
  subst hi;exact ⟨_,hl⟩
 ·obtain ⟨v1,r1,e1,h1,v2,r2,e2,h2,e3⟩:=hargs ρ T a w hr
  have e3':r2=[]:=e3
  subst e3';subst e2
  have hag:c.args.map a.eval= #[v1,v2]:=by apply Array.ext';exact e1
  obtain ⟨⟨b,j1,rfl⟩,_⟩:=h1
  obtain ⟨rfl,hsz⟩:=h2
  obtain ⟨sb,b',h4,h5,hTb,h6⟩:=hb id (.inr (by simp))
  rw [hl] at h4;cases h4
  rw [j1] at h5;cases h5
  obtain ⟨vs,h7,h8⟩:=h6
  have hcell:=HL (ρ:=ρ) (T:=T) (w:=w) s len
  obtain ⟨h9,h10⟩:=mS off hp h8 hcell
  have hl1:=bJ h8
  have hl2:=bJ hcell
  generalize hn:((s.data.toList.take len).map fun b=>Value.int .u8 b.toNat)=news at hcell h10 hl2
  have hfit:off+news.length<=vs.size:=by
   rw [<- hl2];simp at hl1;omega
  have hone: ∀v∈news,v.oneCell'=true:=fun v hv=>by
   rw [<- hn] at hv
   obtain ⟨_,_,rfl⟩:=List.mem_map.1 hv
   rfl
  have hcl:((s.extract 0 (Nat.min s.size len)).data.map fun b=>Value.int .u8 b.toNat).toList=news:=by
   have hmin:(s.extract 0 (Nat.min s.size len)).data.toList=s.data.toList.take len:=by
    rw [ByteArray.data_extract,Array.toList_extract]
    simp only [List.extract_eq_take_drop,List.drop_zero,Nat.sub_zero]
    show s.data.toList.take (Nat.min s.data.size len)=_
    rw [<- Array.length_toList]
    rcases Nat.le_total s.data.toList.length len with h|h
    ·rw [show Nat.min s.data.toList.length len=s.data.toList.length from Nat.min_eq_left h,List.take_length,List.take_of_length_le h]
    ·rw [show Nat.min s.data.toList.length len=len from Nat.min_eq_right h]
   rw [Array.toList_map,hmin]
   exact hn
  have hst:=eS (P:=P) (o:=off) news 0 vs w h7 (by simpa using hfit) hone
  have hu1: ∀w,(Go.underlying t).run P w= .ok (.slice e) w:=Go.run_underlying hT
  have hrun:(execOp a.eval o).run P w= .ok (.value (.int .i64 (Nat.min s.size len))) (bA w b (aZ vs.toList off news).toArray e'):=by
   rw [hexec,hag]
   show (do Pure.pure (Next.value (<- Builtin.copy_ c.argTypes o.type #[_,_]))).run P _=_
   have:(Builtin.copy_ c.argTypes o.type #[.slice (some ⟨b,off,none⟩) len cap,.string s]).run P w= .ok (.int .i64 (Nat.min s.size len)) (bA w b (aZ vs.toList off news).toArray e'):=by
    simp only [Builtin.copy_,ha0,List.getElem?_toArray,List.getElem?_cons_zero,List.getElem?_cons_succ,Sem.run_bind,hu1,Result.andThen_ok,Builtin.lenOf,Sem.run_pure,(htt _ _ hte).sizeOf,Builtin.firstCells,hcl]
    rw [hst]
    simp [goInt]
   rw [Sem.run_bind,this];rfl
  refine bH hrun (hnext _ _ ρ T ?_)
  have hG:aX (fun c=>c=b) w (bA w b (aZ vs.toList off news).toArray e'):=
   aX.put h7 (by rw [List.size_toArray,eU (by simpa using hfit)];simp) _ rfl
  have hGT:aX T w (bA w b (aZ vs.toList off news).toArray e'):=
   hG.mono fun c _ hc=>by rw [hc];exact hTb
  exact {
   names:=fun _ _ h=>h
   only:=fun _ _ h=> .inl h
   val:=⟨rfl,by
    have:=Nat.min_le_left s.size len
    show (-9223372036854775808:Int)<=((Nat.min s.size len:Nat):Int)/\((Nat.min s.size len:Nat):Int)<=(9223372036854775807:Int)
    have h':Nat.min s.size len<=s.size:=this
    omega⟩
   turned:=fun i sb hi=>by
    simp only [List.mem_singleton,Prod.mk.injEq,Option.some.injEq] at hi
    obtain ⟨rfl,rfl⟩:=hi
    exact ⟨b,j1,hTb,_,cV (Array.getElem?_eq_some_iff.1 h7).1,by
     simpa using aS (fun _ _ h=>h) (fun _ _ h=>h) hGT _ _ h10⟩
   keys:=fun i ob hi=>by
    simp only [List.mem_singleton,Prod.mk.injEq] at hi
    left;simp [hi.1]
   cover:=fun i hi=>by obtain rfl:=List.mem_singleton.1 hi;exact ⟨_,List.mem_singleton.2 rfl⟩
   fresh:=fun i b h1 h2 _=>by omega
   inj:=fun i j b _ h1 h2 _ _ _=>by omega
   grow:=hG.mono fun c _ hc=>⟨id,by simp,by rw [hc];exact j1⟩
   tback:=fun _ _ h=>h
   below:=fun i b h1 h2 _=>by omega
   tkeep:=fun _ _ h=> .inl h}
theorem G1{c:Call}{b:Builtin}(ho:o.op= .call c)(hc:c.callee= .builtin b)(h:DN env b c.argTypes.toList (c.args.toList.map (eval st.tmps)) st K):bR P st o K:=by
 have hexec: ∀(a:Act),execOp a.eval o=Go.builtin b c.argTypes o.type (c.args.map fun| .const _=>true|_=>false) (c.args.map a.eval):=by
  intro a
  simp only [execOp,ho,resolve,hc,invoke]
  rfl
 have hargs: ∀(ρ:aG) (T:Nat->Prop) (a:Act) (w:World),(∀x,x∈o.op.operands->rel ρ T w (eval st.tmps x) (a.eval x))->
   aQ ρ T w (c.args.toList.map (eval st.tmps)) (c.args.map a.eval).toList:=by
  intro ρ T a w hr
  rw [Array.toList_map]
  refine o9 _ fun x hx=>hr x ?_
  simp only [ho,Op.operands,Call.operands,hc]
  simpa using hx
 unfold DN at h
 split at h
 ·rename_i t u ts s x hts hxs
  have ht2: ∃tl:List TypeId,c.argTypes.toList=t::u::tl:=⟨ts,hts⟩
  exact KF htt hexec (fun ρ T a w hr=>by
   have h1:=hargs ρ T a w hr
   rw [hxs] at h1
   exact h1) hts h
 ·rename_i t ts x hts hxs
  exact PQ htt hexec (fun ρ T a w hr=>by
   have h1:=hargs ρ T a w hr
   rw [hxs] at h1
   exact h1) hts h
 ·rename_i t u ts x y hts hxs
  exact R8 htt hexec (fun ρ T a w hr=>by
   have h1:=hargs ρ T a w hr
   rw [hxs] at h1
   exact h1) hts h
 ·rename_i t ts x hts hxs
  have len_case: ∀(n:Nat) (p:TK->Bool),K (.int .i64 n) [] st.nxt [] []->(∀(ρ:aG) (T:Nat->Prop) (w:World) (y:Value),rel ρ T w x y->
    (Builtin.len_ c.argTypes o.type #[y]).run P w= .ok (.int .i64 n) w/\n<9223372036854775808)->bR P st o K:=by
   intro n p hK hl
   refine bR.pure hK (eX.pure fun ρ T a w hr=> ?_)
   have h1:=hargs ρ T a w hr
   rw [hxs] at h1
   obtain ⟨y,r,h2,h3,h4⟩:=h1
   have h4':r=[]:=h4
   subst h4'
   have h5:c.args.map a.eval= #[y]:=by apply Array.ext';exact h2
   obtain ⟨h6,h7⟩:=hl ρ T w y h3
   refine ⟨.int .i64 n, ?_,rfl, ?_⟩
   ·rw [hexec,h5];simp only [Go.builtin,Sem.run_bind,h6];rfl
   ·show (-9223372036854775808:Int)<=_/\_<=(9223372036854775807:Int);omega
  have ht0:c.argTypes[0]? =some t:=by rw [<- Array.getElem?_toList,hts];rfl
  have slice_case: ∀(n:Nat),(bif cR env.tt t iO then K (.int .i64 n) [] st.nxt [] [] else False)->
    (∀(ρ:aG) (T:Nat->Prop) (w:World) (y:Value),rel ρ T w x y->(∃a m,y= .slice a n m)/\n<9223372036854775808)->bR P st o K:=by
   intro n hK hy
   cases hki:cR env.tt t iO with
   |false=>rw [hki] at hK;exact hK.elim
   |true=>
    rw [hki] at hK
    obtain ⟨ti,ht,hk⟩:=cU hki
    obtain ⟨e,hkb⟩: ∃e,ti.kind= .slice e:=by cases hkk:ti.kind<;>rw [hkk] at hk<;>first|exact ⟨_,rfl⟩|cases hk
    refine len_case n (fun _=>true) hK fun ρ T w y hr=> ?_
    obtain ⟨⟨a,m,rfl⟩,hn⟩:=hy ρ T w y hr
    have hu: ∀w,(Go.underlying t).run P w= .ok (.slice e) w:=fun w=>by simp [Go.underlying,cA (htt _ _ ht) hkb]
    refine ⟨?_,hn⟩
    simp [Builtin.len_,ht0,hu,goInt]
  split at h
  ·exact slice_case _ h fun ρ T w y hr=>by obtain ⟨a,c,rfl,h2,_⟩:=hr;exact ⟨⟨_,_,rfl⟩,h2.2.1⟩
  ·exact slice_case _ h fun ρ T w y hr=>by obtain ⟨b,c,_,rfl,h2,h3,_⟩:=hr;exact ⟨⟨_,_,rfl⟩,by omega⟩
  ·exact slice_case _ h fun ρ T w y hr=>by obtain ⟨⟨b,_,rfl⟩,h2⟩:=hr;exact ⟨⟨_,_,rfl⟩,h2⟩
  ·exact slice_case 0 h fun ρ T w y hr=>by have h':y= .slice none 0 0:=hr;rw [h'];exact ⟨⟨_,_,rfl⟩,by decide⟩
  ·exact slice_case 0 h fun ρ T w y hr=>by obtain ⟨a,c,rfl⟩:=hr;exact ⟨⟨_,_,rfl⟩,by decide⟩
  ·rename_i s
   cases hki:cR env.tt t tW with
   |false=>rw [hki] at h;exact h.elim
   |true=>
    rw [hki] at h
    obtain ⟨ti,ht,hk⟩:=cU hki
    have hkb:ti.kind= .string:=by cases hkk:ti.kind<;>rw [hkk] at hk<;>first|rfl|cases hk
    refine len_case s.size (fun _=>true) h fun ρ T w y hr=> ?_
    obtain ⟨rfl,hs⟩:=hr
    have hu: ∀w,(Go.underlying t).run P w= .ok .string w:=fun w=>by simp [Go.underlying,eM (htt _ _ ht) hkb]
    exact ⟨by simp [Builtin.len_,ht0,hu,goInt],hs⟩
  ·exact h.elim
 ·rename_i k a0 l hxs
  split at h
  ·rename_i n hn
   refine bR.pure h (eX.pure fun ρ T a w hr=> ?_)
   have h1:=hargs ρ T a w hr
   rw [hxs] at h1
   obtain ⟨y,r,h2,⟨rfl,ha⟩,h4⟩:=h1
   obtain ⟨h5,h6⟩:=zV (P:=P) l true a0 n r hn h4 ha
   refine ⟨.int k n, ?_,rfl,h6⟩
   simp only [if_true] at h5
   rw [hexec]
   simp only [Go.builtin,Builtin.max_,h2,Sem.run_bind,h5]
   rfl
  ·exact h.elim
 ·rename_i k a0 l hxs
  split at h
  ·rename_i n hn
   refine bR.pure h (eX.pure fun ρ T a w hr=> ?_)
   have h1:=hargs ρ T a w hr
   rw [hxs] at h1
   obtain ⟨y,r,h2,⟨rfl,ha⟩,h4⟩:=h1
   obtain ⟨h5,h6⟩:=zV (P:=P) l false a0 n r hn h4 ha
   refine ⟨.int k n, ?_,rfl,h6⟩
   simp only [Bool.false_eq_true,if_false] at h5
   rw [hexec]
   simp only [Go.builtin,Builtin.min_,h2,Sem.run_bind,h5]
   rfl
  ·exact h.elim
 ·rename_i x hxs
  exact A9 hexec (fun ρ T a w hr=>by
   have h1:=hargs ρ T a w hr
   rw [hxs] at h1
   exact h1) rfl h
 ·rename_i t u p n hts hxs
  exact wS htt hexec (fun ρ T a w hr=>by
   have h1:=hargs ρ T a w hr
   rw [hxs] at h1
   exact h1) hts h
 ·exact h.elim
end
end Go.Se
namespace Go.Se
variable {P:Program}
abbrev KC :=SV->List (Option SB)->List Nat->Prop
structure iH (ρ:aG) (T:Nat->Prop) (w:World) (σ:List (Option SB)) (v:SV) (σ':List (Option SB)) (d:List Nat) (ρ':aG) (T':Nat->Prop) (w':World) (x:Value):Prop where
 names: ∀p b,ρ p=some b->ρ' p=some b
 only: ∀p b,ρ' p=some b->p<σ'.length
 len:σ.length<=σ'.length
 val:rel ρ' T' w' v x
 store: ∀p sb,σ'[p]? =some (some sb)-> ∃b,ρ' p=some b/\T' b/\eF ρ' T' w' sb b
 fresh: ∀p b,σ.length<=p->ρ' p=some b->w.heap.size<=b\/ ∃q,q∈d/\σ'[q]? =some none/\ρ q=some b
 inj: ∀p q b,σ.length<=p->σ.length<=q->ρ' p=some b->ρ' q=some b->p=q
 dirty: ∀p,p∈d->p<σ.length
 grow:aX (fun b=> ∃p,p∈d/\ρ p=some b) w w'
 tback: ∀b,b<w.heap.size->T' b->T b
 below: ∀p b,ρ' p=some b->b<w'.heap.size
 tkeep: ∀b,b<w.heap.size->T b->T' b\/ ∃q,q∈d/\σ'[q]? =some none/\ρ q=some b
def aCH(P:Program)(k:FuncId)(vals:Array Value)(w:World)(R:Value->World->Prop):Prop:=
 (∃fn,P.funcs[k]? =some fn/\fn.body.isNone=false/\(fn.name== "runtime.NumGoroutine")=false/\Calls P k vals w fun e w'=> ∃x,e= .returned x/\R x w')\/
 (∃x w',(callFunc k vals).run P w= .ok (.value x) w'/\R x w')
structure TA (P:Program) (n:Nat) (ρ:aG) (T:Nat->Prop) (w:World):Prop where
 low: ∀p b,ρ p=some b->p<n/\b<w.heap.size
 inv:Inv P T w
instance (P:Program) (n:Nat) (ρ:aG) (T:Nat->Prop) (w:World):CoeFun (TA P n ρ T w) (fun _=> ∀p b,ρ p=some b->p<n/\b<w.heap.size):=⟨TA.low⟩
def aD(P:Program)(k:FuncId)(xs:List SV)(σ:List (Option SB))(v:SV)(σ':List (Option SB))(d:List Nat):Prop:=
 ∀(ρ:aG) (T:Nat->Prop) (w:World) (vals:Array Value),aQ ρ T w xs vals.toList->
  (∀p,p<σ.length-> ∃sb b,σ[p]? =some (some sb)/\ρ p=some b/\T b/\eF ρ T w sb b)->
  (∀i j b,ρ i=some b->ρ j=some b->i=j)->
  TA P σ.length ρ T w->
  aCH P k vals w fun x w'=> ∃ρ' T',iH ρ T w σ v σ' d ρ' T' w' x
def Sat(P:Program)(k:FuncId)(xs:List SV)(σ:List (Option SB))(Φ:KC->Prop):Prop:=
 ∀K,Φ K-> ∃v σ' d,K v σ' d/\aD P k xs σ v σ' d
theorem KR{l:List Nat}{i:Nat}: ∀{k p:Nat},idx l i k=some p->k<=p/\l[p - k]? =some i:=by
 induction l with
 |nil=>intro k p h;simp [idx] at h
 |cons j l ih=>
  intro k p h
  simp only [idx] at h
  cases hb:Nat.beq j i with
  |true=>
   rw [hb] at h
   simp only [cond_true,Option.some.injEq] at h
   subst h
   simp [Nat.eq_of_beq_eq_true hb]
  |false=>
   rw [hb] at h
   obtain ⟨h1,h2⟩:=ih h
   refine ⟨by omega, ?_⟩
   rw [show p - k=(p - (k+1))+1 by omega,List.getElem?_cons_succ]
   exact h2
mutual
theorem qI{T:Nat->Prop}{w:World}{ρ ρ2:aG}{f:Nat->Option Nat}(h: ∀i j b,f i=some j->ρ i=some b->ρ2 j=some b):
  ∀(a:SV) (v:Value),rel ρ T w a v->rel ρ2 T w (ren f a) v
 | .junk,_,_=>trivial
 | .int _ _,_,h=>h
 | .bool _,_,h=>h
 | .str _,_,h=>h
 | .nilp,_,h=>h
 | .ptr id off,v,⟨b,h1,h2⟩=>by
  simp only [ren]
  cases hf:f id with
  |none=>trivial
  |some j=>exact ⟨b,h _ _ _ hf h1,h2⟩
 | .eptr id i st o,v,⟨b,h1,h2⟩=>by
  simp only [ren]
  cases hf:f id with
  |none=>trivial
  |some j=>exact ⟨b,h _ _ _ hf h1,h2⟩
 | .rptr cs,v,h=>h
 | .fn g x y,v,⟨a,c,h1,h2,h3⟩=>⟨a,c,h1,iT h x _ h2,iT h y _ h3⟩
 | .nilfn,_,h=>h
 | .agg cs,v,⟨a,h1,h2⟩=>⟨a,h1,iT h cs _ h2⟩
 | .tup cs,v,⟨a,h1,h2⟩=>⟨a,h1,iT h cs _ h2⟩
 | .nils,_,h=>h
 | .emp,_,h=>h
 | .arr id off len cap,v,⟨⟨b,h1,h2⟩,h3⟩=>by
  simp only [ren]
  cases hf:f id with
  |none=>trivial
  |some j=>exact ⟨⟨b,h _ _ _ hf h1,h2⟩,h3⟩
 | .own id off st len,v,⟨b,c,h1,h2⟩=>by
  simp only [ren]
  cases hf:f id with
  |none=>trivial
  |some j=>exact ⟨b,c,h _ _ _ hf h1,h2⟩
 | .ro len st g,v,h=>h
 | .nilI,_,h=>h
 | .iface t x,v,⟨y,h1,h2⟩=>⟨y,h1,qI h x y h2⟩
 | .yld id,v,⟨b,h1,h2⟩=>by
  simp only [ren]
  cases hf:f id with
  |none=>trivial
  |some j=>exact ⟨b,h _ _ _ hf h1,h2⟩
theorem iT{T:Nat->Prop}{w:World}{ρ ρ2:aG}{f:Nat->Option Nat}(h: ∀i j b,f i=some j->ρ i=some b->ρ2 j=some b):
  ∀(l:List SV) (m:List Value),aQ ρ T w l m->aQ ρ2 T w (ren.renL f l) m
 | [],_,h=>h
 |a::l,_m,⟨v,r,h1,h2,h3⟩=>⟨v,r,h1,qI h a v h2,iT h l r h3⟩
end
theorem vW(f:Nat->Option Nat): ∀(l:kB) (t:Nat),get (LG f l) t=ren f (get l t)
 | [],t=>rfl
 |(u,v)::l,t=>by
  simp only [LG,get]
  cases Nat.beq u t
  ·exact vW f l t
  ·rfl
theorem rU {T:Nat->Prop} {w:World} {ρ ρ2:aG} {f:Nat->Option Nat} (h: ∀i j b,f i=some j->ρ i=some b->ρ2 j=some b) {sb:SB} {b:Nat}
  (hb:eF ρ T w sb b):eF ρ2 T w (jO f sb) b:=by
 cases sb with
 |cells e cs=>obtain ⟨vs,h1,h2⟩:=hb;exact ⟨vs,h1,iT h _ _ h2⟩
 |lst e cs=>obtain ⟨vs,h1,m,r,h2,h3⟩:=hb;exact ⟨vs,h1,m,r,h2,iT h _ _ h3⟩
 |row e st len g=>exact hb
 |loop tm nt ps as bd pend=>obtain ⟨r,h1,h2,h3,h4,h5,h6,h7⟩:=hb;exact ⟨r,h1,h2,h3,h4,h5,h6,fun t=>by rw [vW];exact qI h _ _ (h7 t)⟩
 |iter s pos=>exact hb
theorem jQ{l:List Nat}{i:Nat}:l.any (Nat.beq i)=true↔i∈l:=by
 rw [List.any_eq_true]
 constructor
 ·rintro ⟨x,hx,h⟩;rw [Nat.eq_of_beq_eq_true h];exact hx
 ·intro h;exact ⟨i,h,Nat.beq_refl i⟩
theorem w9{l:List Nat}(h:l.Nodup){i j:Nat}(hi:i<l.length)(hj:j<l.length)(e:l[i]=l[j]):i=j:=by
 have hp:=List.pairwise_iff_getElem.1 h
 rcases Nat.lt_trichotomy i j with hlt|heq|hgt
 ·exact absurd e (hp i j hi hj hlt)
 ·exact heq
 ·exact absurd e.symm (hp j i hj hi hgt)
theorem oQ{s:dB}: ∀(n:Nat) (l acc:List Nat),acc.Nodup->(∀i∈acc,∃sb,aI s i=some sb)->
  (gB s n l acc).Nodup/\ ∀i∈gB s n l acc,∃sb,aI s i=some sb
 |0,l,acc,h1,h2=>by simpa [gB] using ⟨h1,h2⟩
 |n+1,[],acc,h1,h2=>by simpa [gB] using ⟨h1,h2⟩
 |n+1,i::l,acc,h1,h2=>by
  simp only [gB]
  cases hb:acc.any (Nat.beq i) with
  |true=>exact oQ n l acc h1 h2
  |false=>
   simp only [cond_false]
   have hni:i∉acc:=by rw [<- jQ,hb];simp
   split
   ·rename_i sb hl
    refine oQ n _ _ ?_ ?_
    ·rw [List.nodup_append]
     refine ⟨h1,by simp, ?_⟩
     intro a ha b hb'
     simp only [List.mem_singleton] at hb'
     rintro rfl
     exact hni (hb'▸ha)
    ·intro j hj
     rcases List.mem_append.1 hj with hj|hj
     ·exact h2 j hj
     ·simp only [List.mem_singleton] at hj;subst hj;exact ⟨sb,hl⟩
   ·exact oQ n l acc h1 h2
theorem gU{f:Nat->Option Nat}{F:List Nat}{nxt:Nat}{d:List Nat}: ∀(σ:List (Option SB)) (p:Nat) (id:Nat) (ob:Option SB),
  (id,ob)∈dI f F nxt d p σ-> ∃q o,p<=q/\σ[q - p]? =some o/\ob=o.map (jO f)/\
   ((F[q]? =some id/\q∈d)\/(F[q]? =none/\id=nxt+(q - F.length)))
 | [],p,id,ob,h=>by simp [dI] at h
 |b::l,p,id,ob,h=>by
  have next:(id,ob)∈dI f F nxt d (p+1) l-> ∃q o,p<=q/\(b::l)[q - p]? =some o/\ob=o.map (jO f)/\
   ((F[q]? =some id/\q∈d)\/(F[q]? =none/\id=nxt+(q - F.length))):=by
   intro h
   obtain ⟨q,o,h1,h2,h3⟩:=gU l (p+1) id ob h
   refine ⟨q,o,by omega, ?_,h3⟩
   rw [show q - p=(q - (p+1))+1 by omega,List.getElem?_cons_succ]
   exact h2
  simp only [dI] at h
  split at h
  ·rename_i i hi
   cases hd:d.any (Nat.beq p) with
   |false=>rw [hd] at h;exact next h
   |true=>
    rw [hd] at h
    simp only [cond_true,List.mem_cons,Prod.mk.injEq] at h
    rcases h with ⟨rfl,rfl⟩|h
    ·exact ⟨p,b,Nat.le_refl _,by simp,rfl,.inl ⟨hi,jQ.1 hd⟩⟩
    ·exact next h
  ·rename_i hi
   simp only [List.mem_cons,Prod.mk.injEq] at h
   rcases h with ⟨rfl,rfl⟩|h
   ·exact ⟨p,b,Nat.le_refl _,by simp,rfl,.inr ⟨hi,rfl⟩⟩
   ·exact next h
theorem m9{f:Nat->Option Nat}{F:List Nat}{nxt:Nat}{d:List Nat}: ∀(σ:List (Option SB)) (p q i:Nat),
  p<=q->σ[q - p]? =some none->F[q]? =some i->q∈d->(i,none)∈dI f F nxt d p σ
 | [],p,q,i,_,h,_,_=>by simp at h
 |b::l,p,q,i,hp,h,hi,hd=>by
  simp only [dI]
  by_cases e:q=p
  ·subst e
   simp only [Nat.sub_self,List.getElem?_cons_zero,Option.some.injEq] at h
   subst h
   rw [hi]
   simp only [jQ.2 hd,cond_true,Option.map_none,List.mem_cons,true_or]
  ·have ih:=m9 (f:=f) (nxt:=nxt) l (p+1) q i (by omega) (by rw [show q - p=(q - (p+1))+1 by omega,List.getElem?_cons_succ] at h;exact h) hi hd
   split
   ·cases d.any (Nat.beq p)
    ·exact ih
    ·exact List.mem_cons_of_mem _ ih
   ·exact List.mem_cons_of_mem _ ih
theorem qV{f:Nat->Option Nat}{F:List Nat}{nxt:Nat}{d:List Nat}: ∀(σ:List (Option SB)) (p q i:Nat),
  p<=q->q - p<σ.length->F[q]? =some i->q∈d-> ∃o,(i,o)∈dI f F nxt d p σ
 | [],p,q,i,_,h,_,_=>by simp at h
 |b::l,p,q,i,hp,h,hi,hd=>by
  simp only [dI]
  by_cases e:q=p
  ·subst e
   rw [hi]
   exact ⟨_,by simp only [jQ.2 hd,cond_true];exact List.mem_cons_self⟩
  ·obtain ⟨o,ih⟩:=qV (f:=f) (nxt:=nxt) l (p+1) q i (by omega) (by simp only [List.length_cons] at h;omega) hi hd
   refine ⟨o, ?_⟩
   split
   ·cases d.any (Nat.beq p)
    ·exact ih
    ·exact List.mem_cons_of_mem _ ih
   ·exact List.mem_cons_of_mem _ ih
section
variable {st:St} {o:Oper} {K:KV} {env:Env}
theorem AC{L:List Nat}{v:SV}{σ':List (Option SB)}{d:List Nat}{F:List Nat}(hF:gB st.store 200 L []=F):
  st.nxt<=st.nxt+(σ'.length - F.length)/\(∀id,id∈F\/id∈(d.filterMap fun p=>F[p]?)-> ∃sb,aI st.store id=some sb)/\gK st (dI (fX F st.nxt) F st.nxt d 0 σ')/\
  (∀id o,(id,o)∈dI (fX F st.nxt) F st.nxt d 0 σ'->id∈(d.filterMap fun p=>F[p]?)\/(st.nxt<=id/\id<st.nxt+(σ'.length - F.length)))/\
  ∀(ρ:aG) (T:Nat->Prop) (w:World),
   (∀id,id∈F\/id∈(d.filterMap fun p=>F[p]?)-> ∃sb b,aI st.store id=some sb/\ρ id=some b/\T b/\eF ρ T w sb b)->
   (∀i j b,i∈F\/i∈(d.filterMap fun p=>F[p]?)->j∈F\/j∈(d.filterMap fun p=>F[p]?)->ρ i=some b->ρ j=some b->i=j)->
   Low P ρ T w->(∀id,st.nxt<=id->id<st.nxt+(σ'.length - F.length)->ρ id=none)->
   (∀i j b:Nat,idx F i 0=some j->ρ i=some b->((F[j]?).bind ρ)=some b)/\
   (∀p,p<(F.map fun i=>(aI st.store i).map (jO fun i=>idx F i 0)).length-> ∃sb b,(F.map fun i=>(aI st.store i).map (jO fun i=>idx F i 0))[p]? =some (some sb)/\((F[p]?).bind ρ)=some b/\T b/\eF (fun p=>(F[p]?).bind ρ) T w sb b)/\
   (∀i j b:Nat,((F[i]?).bind ρ)=some b->((F[j]?).bind ρ)=some b->i=j)/\
   TA P (F.map fun i=>(aI st.store i).map (jO fun i=>idx F i 0)).length (fun p=>(F[p]?).bind ρ) T w/\
   ∀x w',(∃ρ' T',iH (fun p=>(F[p]?).bind ρ) T w (F.map fun i=>(aI st.store i).map (jO fun i=>idx F i 0)) v σ' d ρ' T' w' x)->
    ∃ρ'' T',eW ρ T w st.nxt (st.nxt+(σ'.length - F.length)) (ren (fX F st.nxt) v) (dI (fX F st.nxt) F st.nxt d 0 σ') (d.filterMap fun p=>F[p]?) ρ'' T' w' x:=by
 obtain ⟨hnd,halive⟩:=oQ (s:=st.store) 200 L [] List.nodup_nil (by simp)
 rw [hF] at hnd halive
 refine ⟨Nat.le_add_right _ _, ?_, ?_, ?_, ?_⟩
 ·intro id hid
  rcases hid with hid|hid
  ·exact halive id hid
  ·obtain ⟨p,_,hp⟩:=List.mem_filterMap.1 hid
   exact halive id (List.mem_of_getElem? hp)
 ·intro hlt id x y hx hy
  obtain ⟨q,o1,_,hq,rfl,hc1⟩:=gU _ _ _ _ hx
  obtain ⟨q',o2,_,hq',rfl,hc2⟩:=gU _ _ _ _ hy
  rw [Nat.sub_zero] at hq hq'
  have ge: ∀q,F[q]? =none->F.length<=q:=by
   intro q h6
   rcases Nat.lt_or_ge q F.length with h|h
   ·rw [List.getElem?_eq_getElem h] at h6;cases h6
   ·exact h
  have hqq:q=q':=by
   rcases hc1 with ⟨h1,_⟩|⟨h1,h2⟩<;>rcases hc2 with ⟨h3,_⟩|⟨h3,h4⟩
   ·obtain ⟨hi',hx'⟩:=List.getElem?_eq_some_iff.1 h1
    obtain ⟨hj',hy'⟩:=List.getElem?_eq_some_iff.1 h3
    exact w9 hnd hi' hj' (hx'.trans hy'.symm)
   ·obtain ⟨sb,hsb⟩:=halive id (List.mem_of_getElem? h1)
    have:=hlt id sb hsb
    omega
   ·obtain ⟨sb,hsb⟩:=halive id (List.mem_of_getElem? h3)
    have:=hlt id sb hsb
    omega
   ·have:=ge q h1;have:=ge q' h3;omega
  subst hqq
  rw [hq] at hq'
  cases hq'
  rfl
 ·intro id ob hid
  obtain ⟨q,o',_,hq,_,hcase⟩:=gU _ _ _ _ hid
  rw [Nat.sub_zero] at hq
  rcases hcase with ⟨h6,h7⟩|⟨h6,h7⟩
  ·left
   exact List.mem_filterMap.2 ⟨q,h7,h6⟩
  ·right
   have hq':=(List.getElem?_eq_some_iff.1 hq).1
   have:F.length<=q:=by
    rcases Nat.lt_or_ge q F.length with h|h
    ·rw [List.getElem?_eq_getElem h] at h6;cases h6
    ·exact h
   omega
 ·intro ρ T w hb hinj hold hnew
  have hσlen:(F.map fun i=>(aI st.store i).map (jO fun i=>idx F i 0)).length=F.length:=by simp
  let ρc:aG:=fun p=>(F[p]?).bind ρ
  have hren: ∀i j b,(fun i=>idx F i 0) i=some j->ρ i=some b->ρc j=some b:=by
   intro i j b hi hρ
   obtain ⟨_,hj⟩:=KR hi
   show (F[j]?).bind ρ=some b
   rw [Nat.sub_zero] at hj
   rw [hj];exact hρ
  refine ⟨hren, ?_, ?_, ?_, ?_⟩
  ·intro p hp
   rw [hσlen] at hp
   obtain ⟨sb,b,h3,h4,h5,h6⟩:=hb F[p] (.inl (List.getElem_mem hp))
   refine ⟨jO (fun i=>idx F i 0) sb,b, ?_, ?_,h5,rU hren h6⟩
   ·rw [List.getElem?_map,List.getElem?_eq_getElem hp,Option.map_some,h3];rfl
   ·show (F[p]?).bind ρ=some b
    rw [List.getElem?_eq_getElem hp];exact h4
  ·intro i j b hi hj
   obtain ⟨x,hx,hxb⟩:=Option.bind_eq_some_iff.1 hi
   obtain ⟨y,hy,hyb⟩:=Option.bind_eq_some_iff.1 hj
   have hxy:=hinj x y b (.inl (List.mem_of_getElem? hx)) (.inl (List.mem_of_getElem? hy)) hxb hyb
   subst hxy
   obtain ⟨hi',hx'⟩:=List.getElem?_eq_some_iff.1 hx
   obtain ⟨hj',hy'⟩:=List.getElem?_eq_some_iff.1 hy
   exact w9 hnd hi' hj' (hx'.trans hy'.symm)
  ·exact ⟨by
    intro p b hp
    obtain ⟨x,hx,hxb⟩:=Option.bind_eq_some_iff.1 hp
    rw [hσlen]
    exact ⟨(List.getElem?_eq_some_iff.1 hx).1,hold.low _ _ hxb⟩,hold.inv⟩
  ·rintro x w' ⟨ρ',T',hd⟩
   have hlen:F.length<=σ'.length:=by have:=hd.len;rw [hσlen] at this;exact this
   let ρ'':aG:=fun id=>if st.nxt<=id/\id<st.nxt+(σ'.length - F.length) then ρ' (F.length+(id - st.nxt)) else ρ id
   have hnames: ∀id b,ρ id=some b->ρ'' id=some b:=by
    intro id b hid
    show (if _ then _ else _)=_
    rw [if_neg];·exact hid
    rintro ⟨h3,h4⟩
    rw [hnew id h3 h4] at hid;cases hid
   have hF': ∀p i,F[p]? =some i-> ∀b,ρ' p=some b->ρ i=some b:=by
    intro p i hp b hb'
    obtain ⟨sb,c',_,h4,_⟩:=hb i (.inl (List.mem_of_getElem? hp))
    have:ρc p=some c':=by show (F[p]?).bind ρ=_;rw [hp];exact h4
    rw [hd.names p c' this] at hb'
    rw [h4];exact hb'
   have hback: ∀p j b,fX F st.nxt p=some j->ρ' p=some b->ρ'' j=some b:=by
    intro p j b hp hb'
    unfold fX at hp
    split at hp
    ·rename_i i hi
     cases hp
     exact hnames _ _ (hF' p _ hi b hb')
    ·rename_i hi
     cases hp
     have hp1:F.length<=p:=by
      rcases Nat.lt_or_ge p F.length with h|h
      ·rw [List.getElem?_eq_getElem h] at hi;cases hi
      ·exact h
     have hp2:=hd.only p b hb'
     show (if _ then _ else _)=_
     rw [if_pos ⟨by omega,by omega⟩,show F.length+(st.nxt+(p - F.length) - st.nxt)=p by omega]
     exact hb'
   refine ⟨ρ'',T',{
    names:=hnames
    only:=fun id b hid=> ?_
    val:=qI hback _ _ hd.val
    turned:=fun id sb hid=> ?_
    keys:=fun id ob hid=> ?_
    cover:=fun id hid=> ?_
    fresh:=fun id b h3 h4 h5=> ?_
    inj:=fun i j b h3 h4 h5 h6 h7 h8=> ?_
    grow:=hd.grow.mono fun b _ hb'=> ?_
    tback:=hd.tback
    below:=fun id b h3 h4 h5=>hd.below _ b (by rw [<- h5];exact (if_pos ⟨h3,h4⟩).symm)
    tkeep:=fun b hlt hb'=> ?_}⟩
   ·by_cases hin:st.nxt<=id/\id<st.nxt+(σ'.length - F.length)
    ·exact .inr hin
    ·left
     have:ρ'' id=ρ id:=if_neg hin
     rw [this] at hid;exact hid
   ·obtain ⟨q,ob,_,hq,hob,hcase⟩:=gU _ _ _ _ hid
    rw [Nat.sub_zero] at hq
    cases ob with
    |none=>simp at hob
    |some sb0=>
     simp only [Option.map_some,Option.some.injEq] at hob
     subst hob
     obtain ⟨b,h3,h4,h5⟩:=hd.store q sb0 hq
     refine ⟨b, ?_,h4,rU hback h5⟩
     apply hback q _ b _ h3
     unfold fX
     rcases hcase with ⟨h6,_⟩|⟨h6,h7⟩
     ·rw [h6]
     ·rw [h6,h7]
   ·obtain ⟨q,o',_,hq,_,hcase⟩:=gU _ _ _ _ hid
    rw [Nat.sub_zero] at hq
    rcases hcase with ⟨h6,h7⟩|⟨h6,h7⟩
    ·left
     exact List.mem_filterMap.2 ⟨q,h7,h6⟩
    ·right
     have hq':=(List.getElem?_eq_some_iff.1 hq).1
     have:F.length<=q:=by
      rcases Nat.lt_or_ge q F.length with h|h
      ·rw [List.getElem?_eq_getElem h] at h6;cases h6
      ·exact h
     omega
   ·obtain ⟨q,hq,hqi⟩:=List.mem_filterMap.1 hid
    have hq1:=hd.dirty q hq
    have hq2:=hd.len
    exact qV _ 0 q id (Nat.zero_le _) (by omega) hqi hq
   ·have h6:ρ' (F.length+(id - st.nxt))=some b:=by
     have:ρ'' id=ρ' (F.length+(id - st.nxt)):=if_pos ⟨h3,h4⟩
     rw [<- this];exact h5
    rcases hd.fresh _ b (by rw [hσlen];omega) h6 with h7|⟨q,h7,h8,h9⟩
    ·exact .inl h7
    ·right
     obtain ⟨i,hi,hib⟩:=Option.bind_eq_some_iff.1 h9
     exact ⟨i,List.mem_filterMap.2 ⟨q,h7,hi⟩,m9 _ 0 q i (Nat.zero_le _) (by rw [Nat.sub_zero];exact h8) hi h7,hib⟩
   ·have e1:ρ'' i=ρ' (F.length+(i - st.nxt)):=if_pos ⟨h3,h4⟩
    have e2:ρ'' j=ρ' (F.length+(j - st.nxt)):=if_pos ⟨h5,h6⟩
    rw [e1] at h7;rw [e2] at h8
    have:=hd.inj _ _ b (by rw [hσlen];omega) (by rw [hσlen];omega) h7 h8
    omega
   ·obtain ⟨p,hp,hpb⟩:=hb'
    obtain ⟨i,hi,hib⟩:=Option.bind_eq_some_iff.1 hpb
    exact ⟨i,List.mem_filterMap.2 ⟨p,hp,hi⟩,hib⟩
   ·rcases hd.tkeep b hlt hb' with h3|⟨q,h7,h8,h9⟩
    ·exact .inl h3
    ·right
     obtain ⟨i,hi,hib⟩:=Option.bind_eq_some_iff.1 h9
     exact ⟨i,List.mem_filterMap.2 ⟨q,h7,hi⟩,m9 _ 0 q i (Nat.zero_le _) (by rw [Nat.sub_zero];exact h8) hi h7,hib⟩
theorem CE {L:List Nat} {v:SV} {σ':List (Option SB)} {d:List Nat} {F:List Nat} (hF:gB st.store 200 L []=F)
  (hK:K (ren (fX F st.nxt) v) (dI (fX F st.nxt) F st.nxt d 0 σ') (st.nxt+(σ'.length - F.length)) F (d.filterMap fun p=>F[p]?))
  (hgo: ∀(ρ:aG) (T:Nat->Prop) (a:Act) (w:World) (next:Act->World->Prop) (Q:Exit->Act->World->Prop),(∀x,x∈o.op.operands->rel ρ T w (eval st.tmps x) (a.eval x))->
   (∀i j b:Nat,idx F i 0=some j->ρ i=some b->((F[j]?).bind ρ)=some b)->
   (∀p,p<(F.map fun i=>(aI st.store i).map (jO fun i=>idx F i 0)).length-> ∃sb b,(F.map fun i=>(aI st.store i).map (jO fun i=>idx F i 0))[p]? =some (some sb)/\((F[p]?).bind ρ)=some b/\T b/\eF (fun p=>(F[p]?).bind ρ) T w sb b)->
   (∀i j b:Nat,((F[i]?).bind ρ)=some b->((F[j]?).bind ρ)=some b->i=j)->
   TA P (F.map fun i=>(aI st.store i).map (jO fun i=>idx F i 0)).length (fun p=>(F[p]?).bind ρ) T w->
   (∀x w',(∃ρ' T',iH (fun p=>(F[p]?).bind ρ) T w (F.map fun i=>(aI st.store i).map (jO fun i=>idx F i 0)) v σ' d ρ' T' w' x)->next (a.put o.dst x) w')->wpW P o a w next Q):bR P st o K:=by
 obtain ⟨h1,h2,h3,h4,h5⟩:=AC (P:=P) (st:=st) (v:=v) (σ':=σ') (d:=d) hF
 refine ⟨_,_,_,_,_,hK,h1,h2,h3,h4,fun ρ T a w next Q hr hb hinj hold hnew hnext=> ?_⟩
 obtain ⟨k1,k2,k3,k4,k5⟩:=h5 ρ T w hb hinj hold hnew
 refine hgo ρ T a w next Q hr k1 k2 k3 k4 fun x w' hx=> ?_
 obtain ⟨ρ'',T',hd⟩:=k5 x w' hx
 exact hnext x w' ρ'' T' hd
theorem VI {c:Call} {f:Operand} {k:FuncId} {first cap:List SV} (hs: ∀xs σ,Sat P k xs σ (env.callee k xs σ)) (ho:o.op= .call c) (hc:c.callee= .value f)
  (hf:eval st.tmps f= .fn (.func k) first cap) (h:EP env st k (first++c.args.toList.map (eval st.tmps)++cap) K):bR P st o K:=by
 unfold EP at h
 generalize hxs:first++c.args.toList.map (eval st.tmps)++cap=xs at h
 simp only at h
 generalize hF:gB st.store 200 (ids.idsL xs) []=F at h
 obtain ⟨v,σ',d,hK,hok⟩:=hs _ _ _ h
 refine CE hF hK fun ρ T a w next Q hr hren m1 m2 m3 hdone=> ?_
 have hfv: ∃a1 a2,a.eval f= .func (.func k) a1 a2/\aQ ρ T w first a1.toList/\aQ ρ T w cap a2.toList:=by
  have:=hr f (by simp [ho,Op.operands,Call.operands,hc])
  rw [hf] at this
  exact this
 obtain ⟨a1,a2,hfe,h1,h2⟩:=hfv
 have hargs:aQ ρ T w xs (a1++c.args.map a.eval++a2).toList:=by
  rw [<- hxs,Array.toList_append,Array.toList_append]
  refine eN (eN h1 ?_) h2
  rw [Array.toList_map]
  refine o9 _ fun x hx=>hr x ?_
  simp only [ho,Op.operands,Call.operands,hc]
  exact Array.mem_append.2 (Or.inr (Array.mem_def.2 hx))
 have hruns:=hok (fun p=>(F[p]?).bind ρ) T w (a1++c.args.map a.eval++a2) (iT hren _ _ hargs) m1 m2 m3
 have hexec:execOp a.eval o=callFunc k (a1++c.args.map a.eval++a2):=by
  simp only [execOp,ho,resolve,hc,hfe,Deferred.ofValue]
  rfl
 rcases hruns with ⟨fn,hfn,hbody,hname,hcalls⟩|⟨x,w',hrun,hR⟩
 ·have hrun:(execOp a.eval o).run P w= .ok (.enter k (a1++c.args.map a.eval++a2)) w:=by
   rw [hexec]
   simp only [callFunc,Sem.run_bind,run_program,Result.andThen_ok,hfn,hname,Bool.false_eq_true,if_false,hbody,Sem.run_pure]
  refine HP (fun _=>vF (fun _ h=>by cases h) hrun) fun F2 n hF2=> ?_
  rw [hrun,Oper.uponIn_enter]
  refine ⟨fun hd=>(by rw [hF2.depth] at hd;cases hd),hF2.calls (hcalls.mono fun e w' he=> ?_)⟩
  obtain ⟨x,rfl,hR⟩:=he
  exact hdone x w' hR
 ·exact bH (by rw [hexec];exact hrun) (hdone x w' hR)
end
end Go.Se
namespace Go.Se
variable {P:Program}
def aGd(P:Program)(l:Nat)(vals:Array Value)(w:World)(R:Value->World->Prop):Prop:=
 ∃r:Loop,w.heap[l]? =some (.loop r)/\vals.size=r.params.size/\ ∀(F:Fence) (n:Nat),Wd F->
  RoundIn F n P l r.fn ((r.params.zip vals).foldl (fun tmps (t,a)=>tmps.setIfInBounds t a) r.tmps) r.assign r.body w fun e w'=> ∃x,e= .returned x/\R x w'
def aB4(P:Program)(xs:List SV)(σ:List (Option SB))(v:SV)(σ':List (Option SB))(d:List Nat):Prop:=
 ∀(ρ:aG) (T:Nat->Prop) (w:World) (vals:Array Value),aQ ρ T w xs vals.toList->
  (∀p,p<σ.length-> ∃sb b,σ[p]? =some (some sb)/\ρ p=some b/\T b/\eF ρ T w sb b)->
  (∀i j b,ρ i=some b->ρ j=some b->i=j)->
  TA P σ.length ρ T w->
  ∃l,ρ 0=some l/\aGd P l vals w fun x w'=> ∃ρ' T',iH ρ T w σ v σ' d ρ' T' w' x
def aCe(P:Program)(xs:List SV)(σ:List (Option SB))(Φ:KC->Prop):Prop:=
 ∀K,Φ K-> ∃v σ' d,K v σ' d/\aB4 P xs σ v σ' d
theorem tC{s:dB}: ∀(n:Nat) (l acc:List Nat),∃t,gB s n l acc=acc++t
 |0,_,acc=>⟨[],by simp [gB]⟩
 |n+1,[],acc=>⟨[],by simp [gB]⟩
 |n+1,i::l,acc=>by
  simp only [gB]
  cases acc.any (Nat.beq i) with
  |true=>exact tC n l acc
  |false=>
   simp only [cond_false]
   split
   ·obtain ⟨t,h⟩:=tC (s:=s) n (IL _++l) (acc++[i])
    exact ⟨[i]++t,by rw [h,List.append_assoc]⟩
   ·exact tC n l acc
theorem NP{s:dB}{i:Nat}{l:List Nat}{sb:SB}(h:aI s i=some sb):(gB s 200 (i::l) [])[0]? =some i:=by
 have e:gB s 200 (i::l) []=gB s 199 (IL sb++l) [i]:=by
  show (bif ([]:List Nat).any (Nat.beq i) then _ else _)=_
  simp [h]
 obtain ⟨t,ht⟩:=tC (s:=s) 199 (IL sb++l) [i]
 rw [e,ht];rfl
theorem OD {st:St} {o:Oper} {K:KV} {env:Env} {c:Call} {f:Operand} {id:Nat} (hs: ∀xs σ,aCe P xs σ (env.round xs σ)) (ho:o.op= .call c) (hc:c.callee= .value f)
  (hf:eval st.tmps f= .yld id) (h:MQ env st id (c.args.toList.map (eval st.tmps)) K):bR P st o K:=by
 unfold MQ at h
 split at h
 case h_2=>exact h.elim
 rename_i tm nt ps as bd pend hl
 generalize hxs:c.args.toList.map (eval st.tmps)=xs at h
 simp only at h
 have hhead:=NP (l:=ids.idsL xs) hl
 generalize hF:gB st.store 200 (id::ids.idsL xs) []=F at h hhead
 obtain ⟨v,σ',d,hK,hok⟩:=hs _ _ _ h
 refine CE hF hK fun ρ T a w next Q hr hren m1 m2 m3 hdone=> ?_
 have hfv: ∃b,ρ id=some b/\a.eval f= .func (.yield b) #[] #[]:=by
  have:=hr f (by simp [ho,Op.operands,Call.operands,hc])
  rw [hf] at this
  exact this
 obtain ⟨b,hb,hfe⟩:=hfv
 have hargs:aQ ρ T w xs (c.args.map a.eval).toList:=by
  rw [<- hxs,Array.toList_map]
  refine o9 _ fun x hx=>hr x ?_
  simp only [ho,Op.operands,Call.operands,hc]
  exact Array.mem_append.2 (Or.inr (Array.mem_def.2 hx))
 obtain ⟨l,hl0,r,hr1,hr2,hr3⟩:=hok (fun p=>(F[p]?).bind ρ) T w (c.args.map a.eval) (iT hren _ _ hargs) m1 m2 m3
 have hlb:l=b:=by
  have:((F[0]?).bind ρ)=some l:=hl0
  rw [hhead] at this
  have h2:ρ id=some l:=this
  rw [hb] at h2;cases h2;rfl
 subst hlb
 have hexec:execOp a.eval o=Instr.yield l (#[]++c.args.map a.eval++ #[]):=by
  simp only [execOp,ho,resolve,hc,hfe,Deferred.ofValue]
  rfl
 have hrun:=run_yield (P:=P) (args:= #[]++c.args.map a.eval++ #[]) hr1 (by simpa using hr2)
 rw [<- hexec] at hrun
 refine HP (fun _=>vF (fun _ h=>by cases h) hrun) fun F2 n hF2=> ?_
 rw [hrun,Oper.uponIn_round]
 refine ⟨fun hd=>(by rw [hF2.depth] at hd;cases hd), ?_⟩
 have:=hr3 F2 (n - 1) hF2
 simp only [Array.empty_append,Array.append_empty]
 refine this.mono fun e w' he=> ?_
 obtain ⟨x,rfl,hR⟩:=he
 exact hdone x w' hR
end Go.Se
namespace Go.Se
variable {P:Program} {env:Env} {st:St} {o:Oper} {K:KV} (htt: ∀t ti,env.tt t=some ti->eL P t ti)
include htt
omit htt in
theorem vU{ρ:aG}{T:Nat->Prop}{w:World}: ∀{cs:List SV} {m:List Value} {l:List Int},byteCells cs=some l->aQ ρ T w cs m->m=l.map fun n=> .int .u8 n
 | [],m,l,h,hr=>by
  simp only [byteCells,Option.some.injEq] at h
  subst h;exact hr
 | .int .u8 n::cs,m,l,h,hr=>by
  unfold byteCells at h
  split at h
  ·rename_i r hb
   cases h
   obtain ⟨v,q,rfl,hv,hq⟩:=hr
   rw [vU hb hq,hv.1];rfl
  ·cases h
 | .int .i8 _::_,_,_,h,_=>by cases h
 | .int .i16 _::_,_,_,h,_=>by cases h
 | .int .i32 _::_,_,_,h,_=>by cases h
 | .int .i64 _::_,_,_,h,_=>by cases h
 | .int .u16 _::_,_,_,h,_=>by cases h
 | .int .u32 _::_,_,_,h,_=>by cases h
 | .int .u64 _::_,_,_,h,_=>by cases h
 | .junk::_,_,_,h,_=>by cases h
 | .bool _::_,_,_,h,_=>by cases h
 | .str _::_,_,_,h,_=>by cases h
 | .nilp::_,_,_,h,_=>by cases h
 | .ptr _ _::_,_,_,h,_=>by cases h
 | .rptr _::_,_,_,h,_=>by cases h
 | .fn _ _ _::_,_,_,h,_=>by cases h
 | .nilfn::_,_,_,h,_=>by cases h
 | .agg _::_,_,_,h,_=>by cases h
 | .tup _::_,_,_,h,_=>by cases h
 | .nils::_,_,_,h,_=>by cases h
 | .emp::_,_,_,h,_=>by cases h
 | .arr _ _ _ _::_,_,_,h,_=>by cases h
 | .own _ _ _ _::_,_,_,h,_=>by cases h
 | .ro _ _ _::_,_,_,h,_=>by cases h
 | .nilI::_,_,_,h,_=>by cases h
 | .iface _ _::_,_,_,h,_=>by cases h
omit htt in
theorem AK : ∀(l:List Int) (s:Array UInt8),List.foldl (fun (b:ByteArray) (a:Int)=>b.push (UInt8.ofNat a.toNat)) ⟨s⟩ l=⟨s++(l.map fun n=>UInt8.ofNat n.toNat).toArray⟩
 | [],s=>by simp
 |n::l,s=>by
  rw [List.foldl_cons,ByteArray.push,AK l]
  simp
theorem NY{src dst:TypeId}{x:Operand}{id off len c:Nat}(ho:o.op= .convert src dst x)(hx:eval st.tmps x= .arr id off len c)(h:M1 env src dst id off len st K):bR P st o K:=by
 unfold M1 at h
 split at h
 ·rename_i ts td hs hd
  split at h
  ·rename_i e hk hk'
   split at h
   ·rename_i te hte
    split at h
    ·rename_i hke
     split at h
     ·rename_i ee cs hl
      split at h
      ·rename_i l hb
       cases hlen:Nat.beq l.length len with
       |false=>rw [hlen] at h;exact h.elim
       |true=>
        rw [hlen] at h
        obtain ⟨hsz,h⟩:=If.elim h
        have hlen:=Nat.eq_of_beq_eq_true hlen
        refine ⟨_,[],st.nxt,[id],[],h,Nat.le_refl _, ?_,gK.nil,by simp,fun ρ T a w next Q hr hb' _ _ _ hnext=> ?_⟩
        ·intro i hi
         simp only [List.mem_singleton,List.not_mem_nil,or_false] at hi
         subst hi;exact ⟨_,hl⟩
        ·have h1:=hr x (by simp [ho,Op.operands])
         rw [hx] at h1
         obtain ⟨⟨b,h2,h3⟩,_⟩:=h1
         obtain ⟨sb,b',h4,h5,_,h6⟩:=hb' id (.inl (by simp))
         rw [hl] at h4;cases h4
         rw [h2] at h5;cases h5
         obtain ⟨vs,h7,h8⟩:=h6
         have hc:=gN off len h8
         have hm:=vU hb hc
         have hll:((vs.toList.drop off).take len).length=len:=by rw [hm,List.length_map,hlen]
         have hof:off+len<=vs.size\/len=0:=by
          rw [List.length_take,List.length_drop] at hll
          have:vs.toList.length=vs.size:=by simp
          omega
         have hload:(loadCells ⟨b,off,none⟩ len).run P w= .ok ((vs.toList.drop off).take len).toArray w:=by
          rcases hof with hof|h0
          ·exact oC h7 hof
          ·subst h0;simp [loadCells,loadCellsFrom]
         have hu1: ∀w,(Go.underlying src).run P w= .ok (.slice e) w:=fun w=>by simp [Go.underlying,cA (htt _ _ hs) hk]
         have hu2: ∀w,(Go.underlying dst).run P w= .ok .string w:=fun w=>by simp [Go.underlying,eM (htt _ _ hd) hk']
         have hu3: ∀w,(Go.underlying e).run P w= .ok (.int .u8) w:=fun w=>by simp [Go.underlying,pI (htt _ _ hte) hke]
         refine bH (x:= .string (bytesOf l)) (w':=w) ?_ (hnext _ w ρ T (eW.pure ⟨rfl, ?_⟩))
         ·simp only [execOp,ho,h3,Go.convert,Sem.run_bind,hu1,hu2,hu3,Result.andThen_ok,Conv.bytesToString,hload,hm]
          simp [bytesOf,ByteArray.empty,ByteArray.emptyWithCapacity,AK];try rfl
         ·have:(bytesOf l).size=l.length:=by simp [bytesOf,ByteArray.size]
          rw [this,hlen];exact of_decide_eq_true hsz
      ·exact h.elim
     ·exact h.elim
    ·exact h.elim
   ·exact h.elim
  ·exact h.elim
 ·exact h.elim
omit htt in
theorem iF {ρ:aG} {T:Nat->Prop} {w:World} {a:Act} {x:Option Operand} {d:Nat} {n:Int} (h:jP (x.map (eval st.tmps)) d=some n)
  (hr: ∀y,x=some y->rel ρ T w (eval st.tmps y) (a.eval y)):(x=none/\n=d)\/ ∃y k,x=some y/\a.eval y= .int k n:=by
 cases x with
 |none=>simp only [Option.map_none,jP,Option.some.injEq] at h;exact .inl ⟨rfl,h.symm⟩
 |some y=>
  simp only [Option.map_some] at h
  unfold jP at h
  split at h
  ·rename_i hn;cases hn
  ·rename_i k m hm
   cases h
   rw [Option.some.injEq] at hm
   have:=hr y rfl
   rw [hm] at this
   exact .inr ⟨y,k,rfl,this.1⟩
  ·cases h
omit htt in
theorem nB {w:World} {a:Act} {lo hi:Option Operand} {len cap:Nat} {l h:Int} (b:Bool) (hl:(lo=none/\l=(0:Nat))\/ ∃y k,lo=some y/\a.eval y= .int k l)
  (hh:(hi=none/\h=len)\/ ∃y k,hi=some y/\a.eval y= .int k h) (h0:0<=l) (h1:l<=h) (h2:h<=cap):
  (Instr.sliceBounds b len cap (lo.map a.eval) (hi.map a.eval) none).run P w= .ok (l.toNat,h.toNat,cap) w:=by
 have hB: ∀(v:Value) (k:IntKind) (n:Int) (y:Nat) (c:BoundsCode),v= .int k n->0<=n->n<=y->(Instr.sliceBound v y c).run P w= .ok n.toNat w:=fun v k n y c hv hn hy=>by
  simp [Instr.sliceBound,hv,asIntOf,hn,hy]
 unfold Instr.sliceBounds
 rcases hh with ⟨rfl,rfl⟩|⟨y,k,rfl,hy⟩<;>rcases hl with ⟨rfl,rfl⟩|⟨z,j,rfl,hz⟩<;>simp only [Option.map_none,Option.map_some,Sem.run_bind,Sem.run_pure,Result.andThen_ok]
 ·simp
 ·rw [hB _ j l _ _ hz h0 (by omega)]
  simp
 ·rw [hB _ k h _ _ hy (by omega) (by omega)]
  simp
 ·rw [hB _ k h _ _ hy (by omega) (by omega)]
  simp only [Result.andThen_ok]
  rw [hB _ j l _ _ hz h0 (by omega)]
  simp
omit htt in
theorem O4{s:ByteArray}{l h:Nat}(hs:s.size<9223372036854775808):(s.extract l h).size<9223372036854775808:=by
 rw [ByteArray.size_extract];omega
theorem PH {t:TypeId} {x:Operand} {lo hi:Option Operand} (ho:o.op= .slice t x lo hi none)
  (h:MV env t (eval st.tmps x) (lo.map (eval st.tmps)) (hi.map (eval st.tmps)) fun v=>K v [] st.nxt [] []):bR P st o K:=by
 have hops: ∀(ρ:aG) (T:Nat->Prop) (a:Act) (w:World),(∀x,x∈o.op.operands->rel ρ T w (eval st.tmps x) (a.eval x))->
   rel ρ T w (eval st.tmps x) (a.eval x)/\(∀y,lo=some y->rel ρ T w (eval st.tmps y) (a.eval y))/\(∀y,hi=some y->rel ρ T w (eval st.tmps y) (a.eval y)):=fun ρ T a w hr=>
  ⟨hr x (by simp [ho,Op.operands]),fun y hy=>hr y (by simp [ho,Op.operands,hy]),fun y hy=>hr y (by simp [ho,Op.operands,hy])⟩
 unfold MV at h
 split at h
 ·exact h.elim
 ·rename_i ti ht
  split at h
  ·rename_i s hk hx
   split at h
   ·rename_i l hh hl hhi
    obtain ⟨hb,h⟩:=If.elim h
    simp only [Bool.and_eq_true,decide_eq_true_eq] at hb
    refine bR.pure h (eX.pure fun ρ T a w hr=> ?_)
    obtain ⟨r1,r2,r3⟩:=hops ρ T a w hr
    rw [hx] at r1
    have hu: ∀w,(Go.underlying t).run P w= .ok .string w:=fun w=>by simp [Go.underlying,eM (htt _ _ ht) hk]
    have hbd:=nB (P:=P) (w:=w) (len:=s.size) (cap:=s.size) false (iF hl r2) (iF hhi r3) hb.1 hb.2.1 hb.2.2
    refine ⟨.string (s.extract l.toNat hh.toNat), ?_,rfl,O4 r1.2⟩
    simp [execOp,ho,r1.1,Instr.sliceAt,Instr.slice,hu,hbd]
   ·exact h.elim
  ·rename_i e id off len cap hk hx
   split at h
   ·rename_i te hte
    split at h
    ·rename_i l hh hl hhi
     obtain ⟨hb,h⟩:=If.elim h
     simp only [Bool.and_eq_true,decide_eq_true_eq] at hb
     refine bR.pure h (eX.pure fun ρ T a w hr=> ?_)
     obtain ⟨r1,r2,r3⟩:=hops ρ T a w hr
     rw [hx] at r1
     obtain ⟨⟨b,h3,h4⟩,h5⟩:=r1
     have hu: ∀w,(Go.underlying t).run P w= .ok (.slice e) w:=fun w=>by simp [Go.underlying,cA (htt _ _ ht) hk]
     have hbd:=nB (P:=P) (w:=w) (len:=len) (cap:=cap) true (iF hl r2) (iF hhi r3) hb.1.1 hb.1.2.1 hb.1.2.2
     refine ⟨.slice (some ⟨b,bif Nat.beq cap l.toNat then off else off+l.toNat*te.size,none⟩) (hh.toNat - l.toNat) (cap - l.toNat), ?_,⟨b,h3,rfl⟩,by omega⟩
     simp only [execOp,ho,h4,Instr.sliceAt,Instr.slice,Option.map_none,Sem.run_bind,hu,Result.andThen_ok,hbd,(htt _ _ hte).sizeOf,Sem.run_pure]
     by_cases hc:cap=l.toNat
     ·rw [if_pos hc,show Nat.beq cap l.toNat=true by rw [hc];exact Nat.beq_refl _];rfl
     ·rw [if_neg hc,show Nat.beq cap l.toNat=false by rw [Bool.eq_false_iff];exact fun e=>hc (Nat.eq_of_beq_eq_true e)]
      simp [cT]
    ·exact h.elim
   ·exact h.elim
  ·rename_i e len s g hk hx
   split at h
   ·rename_i te hte
    split at h
    ·rename_i l hh hl hhi
     split at h
     ·rename_i hs
      obtain ⟨hb,h⟩:=If.elim h
      simp only [Bool.and_eq_true,decide_eq_true_eq] at hb
      have hs':=Nat.eq_of_beq_eq_true hs
      refine bR.pure h (eX.pure fun ρ T a w hr=> ?_)
      obtain ⟨r1,r2,r3⟩:=hops ρ T a w hr
      rw [hx] at r1
      obtain ⟨ad,c,h3,h4,h5⟩:=r1
      obtain ⟨hb1,hb2,hb3⟩:=hb
      obtain ⟨h41,h42⟩:=h4
      have ha: ∀i,i<hh.toNat - l.toNat->i+l.toNat<len:=fun i hi=>by clear h5;omega
      have hc:0<hh.toNat - l.toNat-> ¬c=l.toNat:=fun hlt=>by clear h5;omega
      have hd1:hh.toNat - l.toNat<=c - l.toNat/\hh.toNat - l.toNat<9223372036854775808:=by clear h5;omega
      have hu: ∀w,(Go.underlying t).run P w= .ok (.slice e) w:=fun w=>by simp [Go.underlying,cA (htt _ _ ht) hk]
      have hbd:=nB (P:=P) (w:=w) (len:=len) (cap:=c) true (iF hl r2) (iF hhi r3) hb1 hb2 (by omega)
      refine ⟨.slice (if c=l.toNat then ad else ad.map (·.add (l.toNat*te.size))) (hh.toNat - l.toNat) (c - l.toNat), ?_,_,_,rfl,⟨hd1.1,hd1.2,fun he=> ?_⟩,fun hlt=> ?_⟩
      ·simp only [execOp,ho,h3,Instr.sliceAt,Instr.slice,Option.map_none,Sem.run_bind,hu,Result.andThen_ok,hbd,(htt _ _ hte).sizeOf,Sem.run_pure]
      ·split at he
       ·clear h5;omega
       ·cases ad with
        |none=>rw [h42.2 rfl];exact Nat.zero_sub _
        |some a=>cases he
      ·obtain ⟨b,off,rfl,h6,h7,h8⟩:=h5 (by have:=ha 0 hlt;omega)
       refine ⟨b,off+l.toNat*te.size, ?_,h6,h7,fun i hi=> ?_⟩
       ·rw [if_neg (hc hlt)];simp [cT]
       ·have:=h8 (i+l.toNat) (ha i hi)
        rw [show off+(i+l.toNat)*s=off+l.toNat*te.size+i*s by rw [<- hs',Nat.add_mul,Nat.add_comm (i*s),Nat.add_assoc]] at this
        exact this
     ·exact h.elim
    ·exact h.elim
   ·exact h.elim
  ·rename_i e id off sz len hk hx
   split at h
   ·rename_i te hte
    split at h
    ·rename_i l hh hl hhi
     split at h
     ·rename_i hs
      obtain ⟨hb,h⟩:=If.elim h
      simp only [Bool.and_eq_true,decide_eq_true_eq] at hb
      have hs':=Nat.eq_of_beq_eq_true hs
      have hu: ∀w,(Go.underlying t).run P w= .ok (.slice e) w:=fun w=>by simp [Go.underlying,cA (htt _ _ ht) hk]
      obtain ⟨⟨hb1,hb2,hb3⟩,hb4⟩:=hb
      have hrun: ∀(ρ:aG) (T:Nat->Prop) (a:Act) (w:World),(∀x,x∈o.op.operands->rel ρ T w (eval st.tmps x) (a.eval x))-> ∃b c,ρ id=some b/\len<=c/\c<9223372036854775808/\(∃vs e f,w.heap[b]? =some (.cells vs e f)/\off*sz+c*sz<=vs.size)/\
        (execOp a.eval o).run P w= .ok (.value (.slice (if c=l.toNat then some ⟨b,off*sz,none⟩ else some ⟨b,off*sz+l.toNat*te.size,none⟩) (hh.toNat - l.toNat) (c - l.toNat))) w:=fun ρ T a w hr=>by
       obtain ⟨r1,r2,r3⟩:=hops ρ T a w hr
       rw [hx] at r1
       obtain ⟨b,c,h3,h4,h5,h6,h7⟩:=r1
       have hbd:=nB (P:=P) (w:=w) (len:=len) (cap:=c) true (iF hl r2) (iF hhi r3) hb1 hb2 (by clear h7;omega)
       refine ⟨b,c,h3,h5,h6,h7, ?_⟩
       simp only [execOp,ho,h4,Instr.sliceAt,Instr.slice,Option.map_none,Sem.run_bind,hu,Result.andThen_ok,hbd,(htt _ _ hte).sizeOf,Sem.run_pure]
       by_cases hc:c=l.toNat
       ·rw [if_pos hc,if_pos hc]
       ·rw [if_neg hc,if_neg hc];simp [cT]
      split at h
      ·rename_i hlt
       have hlt:=of_decide_eq_true hlt
       refine bR.pure h (eX.pure fun ρ T a w hr=> ?_)
       obtain ⟨b,c,h3,h5,h6,⟨vs,e1,f1,h7,h8⟩,h9⟩:=hrun ρ T a w hr
       refine ⟨_,h9,b,c - l.toNat,h3, ?_,by clear h9;omega,by clear h9;omega,vs,e1,f1,h7, ?_⟩
       ·rw [if_neg (by clear h9;omega),Nat.add_mul,hs']
       ·have:l.toNat*sz+(c - l.toNat)*sz=c*sz:=by rw [<- Nat.add_mul];congr 1;clear h9;omega
        rw [Nat.add_mul];clear h9;omega
      ·rename_i hlt
       have hlt:=of_decide_eq_false hlt
       refine bR.pure h (eX.pure fun ρ T a w hr=> ?_)
       obtain ⟨b,c,h3,h5,h6,_,h9⟩:=hrun ρ T a w hr
       have hz:hh.toNat - l.toNat=0:=by clear h9;omega
       rw [hz] at h9
       exact ⟨_,h9,_,_,rfl,⟨Nat.zero_le _,by decide,fun he=>by split at he<;>cases he⟩,fun h0=>absurd h0 (Nat.lt_irrefl 0)⟩
     ·exact h.elim
    ·exact h.elim
   ·exact h.elim
  ·rename_i n e id off hk hx
   split at h
   ·rename_i te hte
    split at h
    ·rename_i l hh hl hhi
     obtain ⟨hb,h⟩:=If.elim h
     simp only [Bool.and_eq_true,decide_eq_true_eq] at hb
     refine bR.pure h (eX.pure fun ρ T a w hr=> ?_)
     obtain ⟨r1,r2,r3⟩:=hops ρ T a w hr
     rw [hx] at r1
     obtain ⟨b,h3,h4⟩:=r1
     have hu: ∀w,(Go.underlying t).run P w= .ok (.array n e) w:=fun w=>by simp [Go.underlying,gC (htt _ _ ht) hk]
     have hbd:=nB (P:=P) (w:=w) (len:=n) (cap:=n) false (iF hl r2) (iF hhi r3) hb.1.1 hb.1.2.1 hb.1.2.2
     refine ⟨.slice (some ⟨b,bif Nat.beq n l.toNat then off else off+l.toNat*te.size,none⟩) (hh.toNat - l.toNat) (n - l.toNat), ?_,⟨b,h3,rfl⟩,by omega⟩
     simp only [execOp,ho,h4,Instr.sliceAt,Option.map_none,Sem.run_bind,hu,Result.andThen_ok,Instr.sureAddr,hbd,(htt _ _ hte).sizeOf,Sem.run_pure]
     by_cases hc:n=l.toNat
     ·rw [if_pos hc,show Nat.beq n l.toNat=true by rw [hc];exact Nat.beq_refl _];rfl
     ·rw [if_neg hc,show Nat.beq n l.toNat=false by rw [Bool.eq_false_iff];exact fun e=>hc (Nat.eq_of_beq_eq_true e)]
      simp [cT]
    ·exact h.elim
   ·exact h.elim
  ·exact h.elim
omit htt in
theorem JO {w:World} {a:Act} {lo:Option Operand} {hi mx:Operand} {len cap:Nat} {l h m:Int} {k k':IntKind} (b:Bool) (hl:(lo=none/\l=(0:Nat))\/ ∃y k,lo=some y/\a.eval y= .int k l)
  (hh:a.eval hi= .int k h) (hm:a.eval mx= .int k' m) (h0:0<=l) (h1:l<=h) (h2:h<=m) (h3:m<=cap):
  (Instr.sliceBounds b len cap (lo.map a.eval) (some (a.eval hi)) (some (a.eval mx))).run P w= .ok (l.toNat,h.toNat,m.toNat) w:=by
 have hB: ∀(v:Value) (k:IntKind) (n:Int) (y:Nat) (c:BoundsCode),v= .int k n->0<=n->n<=y->(Instr.sliceBound v y c).run P w= .ok n.toNat w:=fun v k n y c hv hn hy=>by
  simp [Instr.sliceBound,hv,asIntOf,hn,hy]
 unfold Instr.sliceBounds
 rcases hl with ⟨rfl,rfl⟩|⟨z,j,rfl,hz⟩<;>simp only [Option.map_none,Option.map_some,Sem.run_bind,Sem.run_pure]
 ·rw [hB _ k' m _ _ hm (by omega) (by omega)]
  simp only [Result.andThen_ok]
  rw [hB _ k h _ _ hh (by omega) (by omega)]
  simp
 ·rw [hB _ k' m _ _ hm (by omega) (by omega)]
  simp only [Result.andThen_ok]
  rw [hB _ k h _ _ hh (by omega) (by omega)]
  simp only [Result.andThen_ok]
  rw [hB _ j l _ _ hz h0 (by omega)]
  simp
theorem LA {t:TypeId} {x mx:Operand} {lo hi:Option Operand} (ho:o.op= .slice t x lo hi (some mx))
  (h:HJ env t (eval st.tmps x) (lo.map (eval st.tmps)) (hi.map (eval st.tmps)) (eval st.tmps mx) fun v=>K v [] st.nxt [] []):bR P st o K:=by
 unfold HJ at h
 split at h
 ·exact h.elim
 rename_i ti ht
 split at h
 case h_2=>exact h.elim
 rename_i e len s g hk hx
 split at h
 case h_2=>exact h.elim
 rename_i te hte
 split at h
 case h_2=>exact h.elim
 rename_i l k hh k' m hl hhi hmx
 split at h
 case h_2=>exact h.elim
 rename_i hs
 obtain ⟨hb,h⟩:=If.elim h
 simp only [Bool.and_eq_true,decide_eq_true_eq] at hb
 have hs':=Nat.eq_of_beq_eq_true hs
 obtain ⟨hiop,rfl,hhi2⟩: ∃y,hi=some y/\eval st.tmps y= .int k hh:=by
  cases hi with
  |none=>cases hhi
  |some y=>simp only [Option.map_some,Option.some.injEq] at hhi;exact ⟨y,rfl,hhi⟩
 refine bR.pure h (eX.pure fun ρ T a w hr=> ?_)
 have r1:=hr x (by simp [ho,Op.operands])
 have r2: ∀y,lo=some y->rel ρ T w (eval st.tmps y) (a.eval y):=fun y hy=>hr y (by simp [ho,Op.operands,hy])
 have r3:=hr hiop (by simp [ho,Op.operands])
 have r4:=hr mx (by simp [ho,Op.operands])
 rw [hx] at r1
 rw [hhi2] at r3
 rw [hmx] at r4
 obtain ⟨ad,c,h3,h4,h5⟩:=r1
 obtain ⟨hb1,hb2,hb3,hb4⟩:=hb
 obtain ⟨h41,h42⟩:=h4
 have ha: ∀i,i<hh.toNat - l.toNat->i+l.toNat<len:=fun i hi=>by clear h5;omega
 have hc:0<hh.toNat - l.toNat-> ¬m.toNat=l.toNat:=fun hlt=>by clear h5;omega
 have hd1:hh.toNat - l.toNat<=m.toNat - l.toNat/\hh.toNat - l.toNat<9223372036854775808:=by clear h5;omega
 have hu: ∀w,(Go.underlying t).run P w= .ok (.slice e) w:=fun w=>by simp [Go.underlying,cA (htt _ _ ht) hk]
 have hbd:=JO (P:=P) (w:=w) (len:=len) (cap:=c) true (iF hl r2) r3.1 r4.1 hb1 hb2 hb3 (by clear h5;omega)
 refine ⟨.slice (if m.toNat=l.toNat then ad else ad.map (·.add (l.toNat*te.size))) (hh.toNat - l.toNat) (m.toNat - l.toNat), ?_,_,_,rfl,⟨hd1.1,hd1.2,fun he=> ?_⟩,fun hlt=> ?_⟩
 ·simp only [execOp,ho,h3,Instr.sliceAt,Instr.slice,Option.map_some,Sem.run_bind,hu,Result.andThen_ok,hbd,(htt _ _ hte).sizeOf,Sem.run_pure]
 ·split at he
  ·clear h5;omega
  ·cases ad with
   |none=>have:=h42.2 rfl;clear h5;omega
   |some a=>cases he
 ·obtain ⟨b,off,rfl,h6,h7,h8⟩:=h5 (by have:=ha 0 hlt;omega)
  refine ⟨b,off+l.toNat*te.size, ?_,h6,h7,fun i hi=> ?_⟩
  ·rw [if_neg (hc hlt)];simp [cT]
  ·have:=h8 (i+l.toNat) (ha i hi)
   rw [show off+(i+l.toNat)*s=off+l.toNat*te.size+i*s by rw [<- hs',Nat.add_mul,Nat.add_comm (i*s),Nat.add_assoc]] at this
   exact this
omit htt in
theorem wC{T:Nat->Prop}{w:World}{b:Nat}: ∀(l m:List SV) (o:Nat),dS T w l b o->dS T w m b (o+l.length)->dS T w (l++m) b o
 | [],m,o,_,h=>by simpa using h
 |a::l,m,o,⟨h1,h2⟩,h=>⟨h1,wC l m (o+1) h2 (by rw [List.length_cons] at h;rw [show o+1+l.length=o+(l.length+1) by omega];exact h)⟩
omit htt in
theorem MA{T:Nat->Prop}{w:World}{b off sz:Nat}{g:Nat->List SV}: ∀(n:Nat),DO g sz n=true->(∀i,i<n->dS T w (g i) b (off+i*sz))->(CQ g n).length=n*sz/\dS T w (CQ g n) b off
 |0,_,_=>⟨by simp [CQ],trivial⟩
 |n+1,hl,h=>by
  simp only [DO,Bool.and_eq_true] at hl
  have hgl:=Nat.eq_of_beq_eq_true hl.1
  obtain ⟨h1,h2⟩:=MA n hl.2 fun i hi=>h i (by omega)
  refine ⟨by simp only [CQ,List.length_append,h1,hgl,Nat.add_mul,Nat.one_mul], ?_⟩
  simp only [CQ]
  exact wC _ _ _ h2 (by rw [h1];exact h n (by omega))
theorem HQ{t:TypeId}{x:Operand}(ho:o.op= .sliceToArrayPointer t x)(h:C0 env t (eval st.tmps x) fun v=>K v [] st.nxt [] []):bR P st o K:=by
 unfold C0 at h
 split at h
 case h_2=>exact h.elim
 rename_i ti len s g ht hx
 split at h
 case h_2=>exact h.elim
 rename_i n e hk
 cases hc:Nat.blt 0 n&&DO g s n with
 |false=>rw [hc] at h;exact h.elim
 |true=>
 rw [hc] at h
 simp only [Bool.and_eq_true,cond_true] at hc h
 have hn:0<n:=by simpa using hc.1
 obtain ⟨hb,h⟩:=If.elim h
 have hb:=of_decide_eq_true hb
 refine bR.pure h (eX.pure fun ρ T a w hr=> ?_)
 have r1:=hr x (by simp [ho,Op.operands])
 rw [hx] at r1
 obtain ⟨ad,cp,h3,h4,h5⟩:=r1
 obtain ⟨b,off,rfl,h6,h7,h8⟩:=h5 (by omega)
 have hu: ∀w,(Go.underlying t).run P w= .ok (.array n e) w:=fun w=>by simp [Go.underlying,gC (htt _ _ ht) hk]
 refine ⟨.pointer (some ⟨b,off,none⟩), ?_,b,off,rfl,h6,h7,(MA n hc.2 fun i hi=>h8 i (by omega)).2⟩
 simp [execOp,ho,h3,Instr.arrayAt,hu,Nat.not_lt.2 hb]
omit htt in
theorem T4{z:Array Value}{sz n i:Nat}(hz:z.size=sz)(_hp:0<sz)(hi:i<n):((madeCells z (n*sz)).toList.drop (i*sz)).take sz=z.toList:=by
 have hlt:(i+1)*sz<=n*sz:=Nat.mul_le_mul_right _ hi
 rw [Nat.add_mul,Nat.one_mul] at hlt
 apply List.ext_getElem?
 intro k
 rw [List.getElem?_take,List.getElem?_drop]
 by_cases hk:k<sz
 ·rw [if_pos hk,Array.getElem?_toList,Array.getElem?_toList]
  unfold madeCells
  rw [Array.getElem?_map,Array.getElem?_range]
  rw [if_pos (by omega)]
  simp only [Option.map_some]
  rw [hz,Nat.mul_comm i sz,Nat.mul_add_mod,Nat.mod_eq_of_lt hk,getElem!_pos z k (by omega),Array.getElem?_eq_getElem (by omega)]
 ·rw [if_neg hk,List.getElem?_eq_none (by rw [Array.length_toList];omega)]
theorem AB{t:TypeId}{x y:Operand}(ho:o.op= .makeSlice t x y)(h:u1 env t (eval st.tmps x) (eval st.tmps y) st K):bR P st o K:=by
 unfold u1 at h
 split at h
 case h_2=>exact h.elim
 rename_i ti k a k' b ht hx hy
 split at h
 case h_2=>exact h.elim
 rename_i e hk
 split at h
 case h_2=>exact h.elim
 rename_i te hte
 cases hz0:Nat.beq te.zero.length te.size&&Nat.blt 0 te.size with
 |false=>rw [hz0] at h;exact h.elim
 |true=>
 rw [hz0] at h
 simp only [Bool.and_eq_true,cond_true] at hz0 h
 have hzl:=Nat.eq_of_beq_eq_true hz0.1
 have hpos:0<te.size:=Nat.le_of_ble_eq_true hz0.2
 obtain ⟨hb,hK⟩:=If.elim h
 clear h
 simp only [Bool.and_eq_true,decide_eq_true_eq] at hb
 obtain ⟨h0,hab,hbytes,h63⟩:=hb
 have hT:=cA (htt _ _ ht) hk
 obtain ⟨⟨inf,hinf,hsz,hby,z,hz,hzc⟩,_,_⟩:=htt _ _ hte
 have hzs:z.cells.size=te.size:=by
  have:=bJ (cI (fun _=>none) (fun _=>False) default z.cells.toList te.zero hzc)
  rw [<- hzl,this];simp
 obtain ⟨n,rfl⟩: ∃n:Nat,a=(n:Int):=⟨a.toNat,by omega⟩
 obtain ⟨m,rfl⟩: ∃m:Nat,b=(m:Int):=⟨b.toNat,by omega⟩
 rw [Int.toNat_natCast] at hK
 refine ⟨_,_,_,_,_,hK,Nat.le_succ _,by simp,gK.one,fun i o' hi=> ?_,fun ρ T ac w next Q hr _ _ hρ hn hnext=> ?_⟩
 ·simp only [List.mem_singleton,Prod.mk.injEq] at hi
  right;omega
 ·have r1:=hr x (by simp [ho,Op.operands])
  have r2:=hr y (by simp [ho,Op.operands])
  rw [hx] at r1
  rw [hy] at r2
  have hrun0:=run_make (P:=P) w t e inf z hT hinf hz k k' n m (by omega) hab (by rw [hby,Int.mul_comm];omega) (by omega)
  have hmul:n*te.size<=m*te.size:=Nat.mul_le_mul_right _ (by omega)
  have hrun:(execOp ac.eval o).run P w= .ok (.value (.slice (some ⟨w.heap.size,0,none⟩) n m)) (w.alloc (.cells (madeCells z.cells (m*te.size)) e)):=by
   simp only [execOp,ho,r1.1,r2.1]
   simp only [Int.toNat_natCast,hsz] at hrun0
   simp only [Sem.run_bind,hrun0,Result.andThen_ok]
   rfl
  refine bH hrun (hnext _ _ _ _ (eW.newB (b:=w.heap.size) (hn st.nxt (Nat.le_refl _) (by omega)) (aX.alloc _ w _) (Nat.le_refl _) (by rw [World.size_alloc];omega) ?_ ?_))
  ·refine ⟨_,dH w _,by rw [size_madeCells];exact hmul,fun i hi=> ?_⟩
   rw [T4 hzs hpos (show i<m by omega)]
   exact cI _ _ _ _ _ hzc
  ·exact ⟨w.heap.size,m,by simp [dE],by rw [Nat.zero_mul],by omega,by omega,_,_,_,dH w _,by rw [size_madeCells];omega⟩
omit htt in
theorem FG{src dst:TypeId}(h:w8 env src dst=true)(htt: ∀t ti,env.tt t=some ti->eL P t ti): ∃e,P.underlying src=some (.slice e)/\P.underlying dst=some .string/\P.underlying e=some (.int .u8):=by
 unfold w8 at h
 split at h
 ·rename_i ts td hs hd
  split at h
  ·rename_i e hk hk'
   split at h
   ·rename_i te hte
    split at h
    ·rename_i hke
     exact ⟨e,cA (htt _ _ hs) hk,eM (htt _ _ hd) hk',pI (htt _ _ hte) hke⟩
    ·cases h
   ·cases h
  ·cases h
 ·cases h
omit htt in
theorem sI(n:Nat)(g:Nat->List SV):(lS n g).length=n:=by simp [lS]
omit htt in
theorem AG {src dst e:TypeId} {w:World} {a:Act} {x:Operand} {ad:Option Addr} {len c:Nat} {news:List Value} {l:List Int} (ho:o.op= .convert src dst x) (h1:P.underlying src=some (.slice e)) (h2:P.underlying dst=some .string) (h3:P.underlying e=some (.int .u8))
  (hx:a.eval x= .slice ad len c) (hl:l.length=len) (hnews:news=l.map fun n=>Value.int .u8 n) (hcells:len=0\/ ∃b off,ad=some ⟨b,off,none⟩/\ ∀j u,news[j]? =some u->w.cell? ⟨b,off+j,none⟩=some u):
  (execOp a.eval o).run P w= .ok (.value (.string (bytesOf l))) w:=by
 have hu1: ∀w,(Go.underlying src).run P w= .ok (.slice e) w:=fun w=>by simp [Go.underlying,h1]
 have hu2: ∀w,(Go.underlying dst).run P w= .ok .string w:=fun w=>by simp [Go.underlying,h2]
 have hu3: ∀w,(Go.underlying e).run P w= .ok (.int .u8) w:=fun w=>by simp [Go.underlying,h3]
 cases ad with
 |none=>
  have h0:len=0:=by
   rcases hcells with h|⟨_,_,h,_⟩
   ·exact h
   ·cases h
  subst h0
  obtain rfl:l=[]:=List.eq_nil_of_length_eq_zero hl
  simp only [execOp,ho,hx,Go.convert,Sem.run_bind,hu1,hu2,hu3,Result.andThen_ok,Conv.bytesToString]
  simp [bytesOf,ByteArray.empty,ByteArray.emptyWithCapacity];try rfl
 |some ad=>
  have hload:(loadCells ad len).run P w= .ok (l.map fun n=>Value.int .u8 n).toArray w:=by
   rcases hcells with rfl|⟨b,off,h,h'⟩
   ·obtain rfl:l=[]:=List.eq_nil_of_length_eq_zero hl
    simp [loadCells,loadCellsFrom]
   ·cases h
    have:=run_loadCells_list (P:=P) w ⟨b,off,none⟩ news (fun j v hj=>by rw [cT];exact h' j v hj)
    rw [hnews,List.length_map,hl] at this
    exact this
  simp only [execOp,ho,hx,Go.convert,Sem.run_bind,hu1,hu2,hu3,Result.andThen_ok,Conv.bytesToString,hload]
  simp [bytesOf,ByteArray.empty,ByteArray.emptyWithCapacity,AK];try rfl
theorem yL {src dst:TypeId} {x:Operand} {len sz:Nat} {g:Nat->List SV} (ho:o.op= .convert src dst x)
  (hx:eval st.tmps x= .ro len sz g\/(eval st.tmps x= .nils/\len=0)) (h:zT env src dst len sz g st K):bR P st o K:=by
 unfold zT at h
 cases hc:w8 env src dst&&Nat.beq sz 1 with
 |false=>rw [hc] at h;exact h.elim
 |true=>
 rw [hc] at h
 simp only [Bool.and_eq_true,cond_true] at hc h
 obtain ⟨e,k1,k2,k3⟩:=FG hc.1 htt
 have hs:=Nat.eq_of_beq_eq_true hc.2
 obtain ⟨hb,h⟩:=h
 obtain ⟨hlt,h⟩:=If.elim h
 refine bR.pure h (eX.pure fun ρ T a w hr=> ?_)
 have r1:=hr x (by simp [ho,Op.operands])
 have hsz:(bytesOf (lS len g)).size<9223372036854775808:=by
  have:(bytesOf (lS len g)).size=(lS len g).length:=by simp [bytesOf,ByteArray.size]
  rw [this,sI];exact of_decide_eq_true hlt
 rcases hx with hx|⟨hx,rfl⟩
 ·rw [hx] at r1
  obtain ⟨ad,c,h3,h4,h5⟩:=r1
  refine ⟨_,AG (w:=w) ho k1 k2 k3 h3 (sI len g) rfl ?_,rfl,hsz⟩
  rcases Nat.eq_zero_or_pos len with h0|h0
  ·exact .inl h0
  ·right
   obtain ⟨b,off,rfl,h6,h7,h8⟩:=h5 h0
   obtain ⟨news,h9,h10⟩:=tK len hb (fun i hi=>by rw [<- hs];exact h8 i hi)
   exact ⟨b,off,rfl,by rw [<- h9];exact h10⟩
 ·rw [hx] at r1
  exact ⟨_,AG (w:=w) ho k1 k2 k3 (show a.eval x= .slice none 0 0 from r1) (sI 0 g) rfl (.inl rfl),rfl,hsz⟩
theorem I7 {src dst:TypeId} {x:Operand} {id len sz:Nat} (ho:o.op= .convert src dst x)
  (hx:eval st.tmps x= .own id 0 sz len) (h:GL env src dst id sz len st K):bR P st o K:=by
 unfold GL at h
 cases hc:w8 env src dst&&Nat.beq sz 1 with
 |false=>rw [hc] at h;exact h.elim
 |true=>
 rw [hc] at h
 simp only [Bool.and_eq_true,cond_true] at hc h
 obtain ⟨e,k1,k2,k3⟩:=FG hc.1 htt
 have hs:=Nat.eq_of_beq_eq_true hc.2
 split at h
 case h_2=>exact h.elim
 rename_i e1 sz' len' g hl
 cases hc2:Nat.beq sz' 1 with
 |false=>rw [hc2] at h;exact h.elim
 |true=>
 rw [hc2] at h
 have hs2:=Nat.eq_of_beq_eq_true hc2
 obtain ⟨hb,h⟩:=(show _/\If _ _ from h)
 obtain ⟨hlt,h⟩:=If.elim h
 simp only [Bool.and_eq_true,decide_eq_true_eq] at hlt
 refine ⟨_,[],st.nxt,[id],[],h,Nat.le_refl _, ?_,gK.nil,by simp,fun ρ T a w next Q hr hb' _ _ _ hnext=> ?_⟩
 ·intro i hi
  simp only [List.mem_singleton,List.not_mem_nil,or_false] at hi
  subst hi;exact ⟨_,hl⟩
 ·have r1:=hr x (by simp [ho,Op.operands])
  rw [hx] at r1
  obtain ⟨b,c,j1,j2,j3,j4,vs0,e0,f0,j5,j6⟩:=r1
  obtain ⟨sb,b',h4,h5,_,h6⟩:=hb' id (.inl (by simp))
  rw [hl] at h4;cases h4
  rw [j1] at h5;cases h5
  obtain ⟨vs,l1,l2,l3⟩:=h6
  have hat: ∀i,i<len->dS T w (g i) b (0+i*1):=fun i hi=>dJ (l3 i (by omega)) fun j c hj=>by
   rw [dQ l1]
   rw [List.getElem?_take] at hj
   split at hj
   ·rw [List.getElem?_drop,Array.getElem?_toList,hs2] at hj
    rw [Nat.zero_add];exact hj
   ·cases hj
  obtain ⟨news,h9,h10⟩:=tK len hb hat
  have hsz:(bytesOf (lS len g)).size<9223372036854775808:=by
   have:(bytesOf (lS len g)).size=(lS len g).length:=by simp [bytesOf,ByteArray.size]
   rw [this,sI];exact hlt.1
  rw [Nat.zero_mul] at j2
  exact bH (AG (w:=w) ho k1 k2 k3 j2 (sI len g) rfl (.inr ⟨b,0,rfl,by rw [<- h9];exact h10⟩)) (hnext _ w ρ T (eW.pure ⟨rfl,hsz⟩))
end Go.Se
namespace Go.Se
variable {P:Program}
theorem aX.turn{D:Nat}{w w':World}(h:Put D w w'):aX (fun b=>b=D) w w':=
 ⟨Nat.le_of_eq h.size.symm,fun b _ hb=>h.same b hb,fun _ vs _ f hb=>⟨vs,f,h.cells hb,rfl⟩,h.os,h.output,h.tape⟩
theorem nA{D:Nat}{w:World}{o o':Obj}(h:w.heap[D]? =some o)(ho: ∀vs e f,o≠ .cells vs e f):Put D w (w.putObj D o') where
 size:=World.putObj_size
 same:=fun b hb=>World.putObj_heap_other hb
 old:=fun vs e f e2=>by rw [h] at e2;cases e2;exact ho vs e f rfl
 os:=rfl
 output:=rfl
 tape:=rfl
theorem MC{e:TypeId}(hc:P.cellsOf e≠0):liesAt P P.depth e (P.cellsOf e/P.cellsOf e) 0 e 1=true:=by
 have hd:P.depth=(2*(P.types.size+Made.depth)+1)+1:=rfl
 rw [Nat.div_self (by omega),hd]
 simp only [liesAt,Bool.or_eq_true]
 left
 rw [hd]
 simp [Go.rowAt,hc,sameLayout]
section
variable {st:St} {o:Oper} {K:KV} {env:Env} (htt: ∀t ti,env.tt t=some ti->eL P t ti)
theorem yH{t:TypeId}{ti:TI}(ht:eL P t ti)(hk:ti.kind= .other):P.underlying t=some .unsafePointer:=by
 obtain ⟨_,⟨d,hd,h⟩,_⟩:=ht
 rw [hk] at h
 cases d<;>simp only [jA,Option.some.injEq,reduceCtorEq] at h
 case struct gs=>
  cases hb:gs.toList.all (fun f=>f.name != "_") with
  |true=>rw [hb] at h;simp at h
  |false=>rw [hb] at h;simp at h
 exact hd
include htt
theorem JN{src dst:TypeId}{x:Operand}{id off:Nat}(ho:o.op= .convert src dst x)(hx:eval st.tmps x= .ptr id off)(h:GU env src dst id off st K):bR P st o K:=by
 unfold GU at h
 split at h
 case h_2=>exact h.elim
 rename_i ts td e cs hs hd hl
 have main:K (.ptr id off) [] st.nxt [id] []->(∀(w:World) (b:Nat) (vs:Array Value),w.heap[b]? =some (.cells vs e (0,0))->vs.size=cs.length->(Go.convert src dst (.pointer (some ⟨b,off,none⟩))).run P w= .ok (.pointer (some ⟨b,off,none⟩)) w)->bR P st o K:=by
  intro hK hrun
  refine ⟨_,[],st.nxt,[id],[],hK,Nat.le_refl _, ?_,gK.nil,by simp,fun ρ T a w next Q hr hb _ _ _ hnext=> ?_⟩
  ·intro i hi
   simp only [List.mem_singleton,List.not_mem_nil,or_false] at hi
   subst hi;exact ⟨_,hl⟩
  ·have h1:=hr x (by simp [ho,Op.operands])
   rw [hx] at h1
   obtain ⟨b,j1,j2⟩:=h1
   obtain ⟨sb,b',k1,k2,_,k4⟩:=hb id (.inl (by simp))
   rw [hl] at k1;cases k1
   rw [j1] at k2;cases k2
   obtain ⟨vs,l1,l2⟩:=k4
   have hlen:=bJ l2
   refine bH (x:= .pointer (some ⟨b,off,none⟩)) (w':=w) ?_ (hnext _ w ρ T (eW.pure ⟨b,j1,rfl⟩))
   have:=hrun w b vs l1 (by rw [hlen];simp)
   simp only [execOp,ho,j2,Sem.run_bind,this]
   rfl
 split at h
 ·rename_i e' hk hk'
  split at h
  case h_2=>exact h.elim
  rename_i te hte
  cases hc:Nat.blt 0 te.size&&Nat.blt off cs.length with
  |false=>rw [hc] at h;exact h.elim
  |true=>
  rw [hc] at h
  simp only [Bool.and_eq_true] at hc
  have h1:0<te.size:=Nat.le_of_ble_eq_true hc.1
  have h2:off<cs.length:=Nat.le_of_ble_eq_true hc.2
  obtain ⟨⟨inf,hinf,hsz,_⟩,_,_⟩:=htt _ _ hte
  refine main h fun w b vs hb hv=> ?_
  exact Lib.run_to_unsafe w ⟨b,off,none⟩ (lL (htt _ _ hs) hk) (yH (htt _ _ hd) hk') hinf (by omega) (show w.shape? b=some (e,vs.size) by unfold World.shape?;rw [hb]) (show off<vs.size by omega)
 ·rename_i e' hk hk'
  split at h
  case h_2=>exact h.elim
  rename_i te hte
  cases hc:Nat.beq e e'&&(Nat.beq off 0&&(Nat.beq cs.length te.size&&Nat.blt 0 te.size)) with
  |false=>rw [hc] at h;exact h.elim
  |true=>
  rw [hc] at h
  simp only [Bool.and_eq_true] at hc
  obtain rfl:=Nat.eq_of_beq_eq_true hc.1
  obtain rfl:=Nat.eq_of_beq_eq_true hc.2.1
  have h3:=Nat.eq_of_beq_eq_true hc.2.2.1
  have h1:0<te.size:=Nat.le_of_ble_eq_true hc.2.2.2
  obtain ⟨⟨inf,hinf,hsz,_⟩,_,_⟩:=htt _ _ hte
  have hcells:P.cellsOf e=te.size:=by unfold Program.cellsOf;rw [hinf];exact hsz
  refine main h fun w b vs hb hv=> ?_
  exact Lib.run_from_unsafe w ⟨b,0,none⟩ (yH (htt _ _ hs) hk) (lL (htt _ _ hd) hk') hinf (show w.shape? b=some (e,vs.size) by unfold World.shape?;rw [hb])
   (show liesAt P P.depth e (vs.size/P.cellsOf e) 0 e 1=true by
    have:=MC (P:=P) (e:=e) (by omega)
    rw [show vs.size=P.cellsOf e by omega];exact this)
 ·exact h.elim
theorem PF{t:TypeId}{x:Operand}(ho:o.op= .range t x)(h:O6 env t (eval st.tmps x) st K):bR P st o K:=by
 unfold O6 at h
 split at h
 case h_2=>exact h.elim
 rename_i s hx
 cases hki:cR env.tt t tW with
 |false=>rw [hki] at h;exact h.elim
 |true=>
 rw [hki] at h
 obtain ⟨ti,ht,hk⟩:=cU hki
 have hkb:ti.kind= .string:=by cases hkk:ti.kind<;>rw [hkk] at hk<;>first|rfl|cases hk
 refine ⟨_,_,_,_,_,h,Nat.le_succ _,by simp,gK.one,fun i o' hi=> ?_,fun ρ T a w next Q hr _ _ _ hn hnext=> ?_⟩
 ·simp only [List.mem_singleton,Prod.mk.injEq] at hi
  right;omega
 ·have h1:=hr x (by simp [ho,Op.operands])
  rw [hx] at h1
  have hrun:(execOp a.eval o).run P w= .ok (.value (.pointer (some ⟨w.heap.size,0,none⟩))) (w.alloc (.stringIter s 0)):=by
   simp only [execOp,ho,h1.1,Sem.run_bind,run_range_string w t s (eM (htt _ _ ht) hkb)]
   rfl
  refine bH hrun (hnext _ _ _ _ (eW.newB (b:=w.heap.size) (hn st.nxt (Nat.le_refl _) (by omega)) (aX.alloc _ w _) (Nat.le_refl _) (by rw [World.size_alloc];omega) ?_ ?_))
  ·exact ⟨0,dH w _,rfl,h1.2⟩
  ·exact ⟨w.heap.size,by simp [dE],rfl⟩
omit htt in
theorem TP{x:Operand}(ho:o.op= .next x true)(h:WA (eval st.tmps x) st K):bR P st o K:=by
 unfold WA at h
 split at h
 case h_2=>exact h.elim
 rename_i id hx
 split at h
 case h_2=>exact h.elim
 rename_i s pos hl
 have rdl: ∀i,i∈[id]\/i∈[id]-> ∃sb,aI st.store i=some sb:=by
  intro i hi
  simp only [List.mem_singleton,or_self] at hi
  subst hi;exact ⟨_,hl⟩
 rcases Br.elim h with ⟨hp,h⟩|⟨hp,h⟩
 ·have hp:=of_decide_eq_true hp
  refine ⟨_,_,_,_,_,h,Nat.le_refl _,rdl,gK.one,by simp,fun ρ T a w next Q hr hb _ _ _ hnext=> ?_⟩
  have h1:=hr x (by simp [ho,Op.operands])
  rw [hx] at h1
  obtain ⟨b,j1,j2⟩:=h1
  obtain ⟨sb,b',k1,k2,hTb,k4⟩:=hb id (.inl (by simp))
  rw [hl] at k1;cases k1
  rw [j1] at k2;cases k2
  obtain ⟨q,l1,rfl,l3⟩:=k4
  have hput:=nA (o':= .stringIter s (q+(Utf8.decode s q).2)) l1 (fun _ _ _ e=>by cases e)
  have hrun:(execOp a.eval o).run P w= .ok (.value (.tuple #[.bool true,.int .i64 q,.int .i32 (Utf8.decode s q).1])) (w.putObj b (.stringIter s (q+(Utf8.decode s q).2))):=by
   simp only [execOp,ho,j2,Instr.next,getObj,setObj,Sem.run_bind,Sem.run,l1,Result.andThen,hp,if_true]
   rfl
  refine bH hrun (hnext _ _ ρ T (eW.turnIn j1 hTb (aX.turn hput) (fun sb hsb=> ?_) ?_))
  ·cases hsb
   refine ⟨_, ?_,rfl,l3⟩
   show (w.heap.setIfInBounds b _)[b]? =_
   rw [Array.getElem?_setIfInBounds_self_of_lt (Array.getElem?_eq_some_iff.1 l1).1]
  ·refine ⟨_,rfl,_,_,rfl,rfl,_,_,rfl,⟨rfl, ?_⟩,_,_,rfl,⟨rfl, ?_⟩,rfl⟩
   ·show (-9223372036854775808:Int)<=_/\_<=(9223372036854775807:Int);omega
   ·have:=decode_le s q
    show (-2147483648:Int)<=_/\_<=(2147483647:Int);omega
 ·have hp:=of_decide_eq_false hp
  refine ⟨_,[],st.nxt,[id],[],h,Nat.le_refl _,fun i hi=>rdl i (by rcases hi with hi|hi;exact .inl hi;cases hi),gK.nil,by simp,fun ρ T a w next Q hr hb _ _ _ hnext=> ?_⟩
  have h1:=hr x (by simp [ho,Op.operands])
  rw [hx] at h1
  obtain ⟨b,j1,j2⟩:=h1
  obtain ⟨sb,b',k1,k2,hTb,k4⟩:=hb id (.inl (by simp))
  rw [hl] at k1;cases k1
  rw [j1] at k2;cases k2
  obtain ⟨q,l1,rfl,l3⟩:=k4
  refine bH (x:= .tuple #[.bool false]) (w':=w) ?_ (hnext _ w ρ T (eW.pure ⟨_,rfl,_,_,rfl,rfl,rfl⟩))
  simp only [execOp,ho,j2,Instr.next,getObj,Sem.run_bind,Sem.run,l1,Result.andThen,hp,if_false]
  rfl
end
end Go.Se
namespace Go.Se
variable {P:Program}
structure aAA (P:Program) (env:Env):Prop where
 tt: ∀t ti,env.tt t=some ti->eL P t ti
 callee: ∀k xs σ,Sat P k xs σ (env.callee k xs σ)
structure oG (P:Program) (env:Env):Prop extends aAA P env where
 round: ∀xs σ,aCe P xs σ (env.round xs σ)
 ft: ∀k fn,env.ft k=some fn->P.funcs[k]? =some fn/\(fn.name== "runtime.NumGoroutine")=false
theorem V9{env:Env}(he:oG P env){st:St}{o:Oper}{K:KV}(h:H2 env st o.op K):bR P st o K:=by
 cases ho:o.op<;>simp only [ho,H2] at h
 case move x=>exact VP ho h
 case assign x=>exact MG ho h
 case pick c x y=>
  split at h
  ·rename_i b hb;exact TE ho hb h
  ·exact h.elim
 case alloc t=>
  split at h
  ·rename_i ti ht;exact N8 he.tt ho ht h
  ·exact h.elim
 case box t x=>
  split at h
  ·exact h.elim
  ·rename_i hj;exact Z8 ho hj h
 case build t ps=>exact NJ he.tt ho h
 case buildSlice t n ps=>exact zO he.tt ho h
 case load t x=>exact V1 he.tt ho h
 case store t x y=>exact NR he.tt ho h
 case nilCheck x=>
  split at h
  ·rename_i i off hx;exact nY ho (by rw [hx]) (by rw [hx];exact h)
  ·rename_i i j k l hx;exact nY ho (by rw [hx]) (by rw [hx];exact h)
  ·rename_i cs hx;exact nY ho (by rw [hx]) (by rw [hx];exact h)
  ·exact h.elim
 case binOp op t x y ty=>exact OI he.tt ho h
 case unOp op t x=>exact SX ho h
 case convert src dst x=>
  split at h
  ·rename_i id off len c hx;exact NY he.tt ho hx h
  ·rename_i len sz g hx;exact yL he.tt ho (.inl hx) h
  ·rename_i hx;exact yL he.tt ho (.inr ⟨hx,rfl⟩) h
  ·rename_i id sz len hx;exact I7 he.tt ho hx h
  ·rename_i id off hx;exact JN he.tt ho hx h
  ·exact G3 he.tt ho h
 case slice t x lo hi mx=>
  split at h
  ·exact PH he.tt ho h
  ·exact LA he.tt ho h
 case sliceToArrayPointer t x=>exact HQ he.tt ho h
 case makeSlice t x y=>exact AB he.tt ho h
 case makeFunc f x y=>exact DT ho h
 case fieldAddr s x f=>exact BB he.tt rfl ho h
 case field s x f=>exact PU he.tt rfl ho h
 case indexAddr t x i=>exact BQ he.tt rfl ho h
 case index t x i=>exact O1 he.tt rfl ho h
 case range t x=>exact PF he.tt ho h
 case next x b=>
  cases b with
  |false=>exact h.elim
  |true=>exact TP ho h
 case extract x i=>
  split at h
  ·rename_i vs hx
   split at h
   ·rename_i v hv;exact IA ho hx hv h
   ·exact h.elim
  ·exact h.elim
 case makeInterface t x=>
  split at h
  ·rename_i ti ht
   cases hi:mU ti.kind with
   |true=>rw [hi] at h;exact h.elim
   |false=>rw [hi] at h;exact uW ho (he.tt _ _ ht) hi h
  ·exact h.elim
 case call c=>
  split at h
  ·rename_i f hc
   split at h
   ·rename_i k first cap hf;exact VI (he.callee k) ho hc hf h
   ·rename_i id hf;exact OD he.round ho hc hf h
   ·exact h.elim
  ·rename_i b hc;exact G1 he.tt ho hc h
  ·exact h.elim
 all_goals exact h.elim
end Go.Se
namespace Go.Se
variable {P:Program}
structure kG (P:Program) where
 w:World
 ρ:aG
 T:Nat->Prop
 n:Nat
def vL(n:Nat)(T:Nat->Prop)(w:World)(ds:List Deferred):Prop:=
 ∃Ds:List Nat,ds=Ds.map (fun D=>({target:= .collected D,args:= #[]}:Deferred))/\Ds.Nodup/\ ∀D∈Ds,n<=D/\ ¬T D/\w.heap[D]? =some (.deferred (some []))
theorem vL.nil{n:Nat}{T:Nat->Prop}{w:World}:vL n T w []:=⟨[],rfl,List.nodup_nil,fun _ h=>by cases h⟩
theorem vL.grow{n:Nat}{T T':Nat->Prop}{w w':World}{ds:List Deferred}(h:vL n T w ds)(hT: ∀b,b<w.heap.size->T' b->T b)(hw:aX T w w'):vL n T' w' ds:=by
 obtain ⟨Ds,h1,h2,h3⟩:=h
 refine ⟨Ds,h1,h2,fun D hD=> ?_⟩
 obtain ⟨k1,k2,k3⟩:=h3 D hD
 have hlt:D<w.heap.size:=(Array.getElem?_eq_some_iff.1 k3).1
 exact ⟨k1,fun ht=>k2 (hT D hlt ht),by rw [hw.same D hlt k2];exact k3⟩
structure fP (B:kG P) (tm:Nat->SV) (sf:Nat->Option SB) (A:Nat->Prop) (D:List Nat) (nt:Nat) (a:Act) (w:World) (ρ:aG) (T:Nat->Prop):Prop where
 defers:vL B.w.heap.size T w a.defers
 size:a.tmps.size=nt
 tmps: ∀t,rel ρ T w (tm t) (a.tmps.getD t undef)
 store: ∀id sb,sf id=some sb->A id/\ ∃b,ρ id=some b/\T b/\eF ρ T w sb b
 names: ∀id b,ρ id=some b->A id/\b<w.heap.size
 inj: ∀i j b,(sf i).isSome->(sf j).isSome->ρ i=some b->ρ j=some b->i=j
 base: ∀id,id<B.n->A id
 full: ∀p,p<B.n-> ∃b,B.ρ p=some b
 grow:aX (fun b=> ∃p,p∈D/\p<B.n/\B.ρ p=some b) B.w w
 old: ∀p b,B.ρ p=some b->p<B.n/\ρ p=some b
 tback: ∀b,b<B.w.heap.size->T b->B.T b
 tkeep: ∀b,b<B.w.heap.size->B.T b->T b\/ ∃q,q∈D/\q<B.n/\sf q=none/\B.ρ q=some b
 fresh: ∀id b,(sf id).isSome->B.n<=id->ρ id=some b->B.w.heap.size<=b\/ ∃q,q∈D/\q<B.n/\sf q=none/\B.ρ q=some b
 inv:Inv P T w
def upd(f:Nat->SV)(d:Option Nat)(v:SV):Nat->SV:=
 match d with
 |some d=>fun t=>if t=d then v else f t
 |none=>f
def nE(f:Nat->Option SB)(u:dB):Nat->Option SB:=
 match u with
 | []=>f
 |(i,o)::u=>fun id=>if id=i then o else nE f u id
theorem kP(f:Nat->Option SB): ∀(u:dB) (id:Nat),(∃o,(id,o)∈u/\nE f u id=o)\/((∀o,(id,o)∉u)/\nE f u id=f id)
 | [],id=>Or.inr (And.intro (fun _ h=>nomatch h) rfl)
 |(i,o)::u,id=>by
  by_cases h:id=i
  ·subst h
   exact .inl ⟨o,by simp,by simp [nE]⟩
  ·rcases kP f u id with ⟨o',h1,h2⟩|⟨h1,h2⟩
   ·exact .inl ⟨o',by simp [h1],by simp [nE,h,h2]⟩
   ·exact .inr ⟨fun o' ho=>by
     simp only [List.mem_cons,Prod.mk.injEq] at ho
     rcases ho with ⟨h3,_⟩|ho
     ·exact h h3
     ·exact h1 o' ho,by simp [nE,h,h2]⟩
theorem xN(u s:dB)(id:Nat):aI (u++s) id=nE (aI s) u id:=by
 induction u with
 |nil=>rfl
 |cons p u ih=>
  obtain ⟨i,o⟩:=p
  simp only [List.cons_append,aI,nE]
  by_cases h:id=i
  ·subst h;simp
  ·have:Nat.beq i id=false:=by
    rw [Bool.eq_false_iff];intro e;exact h (Nat.eq_of_beq_eq_true e).symm
   rw [this,if_neg h];exact ih
theorem ZC(a:Act)(d:Nat)(x:Value)(h:d<a.tmps.size)(t:Nat):(a.put (some d) x).tmps.getD t undef=if t=d then x else a.tmps.getD t undef:=by
 simp only [Act.put,Array.getD_eq_getD_getElem?]
 by_cases e:t=d
 ·subst e;simp [h]
 ·rw [Array.getElem?_setIfInBounds_ne (Ne.symm e),if_neg e]
theorem fP.done {B:kG P} {tm:Nat->SV} {sf:Nat->Option SB} {A:Nat->Prop} {D:List Nat} {nt:Nat} {a:Act} {w:World} {ρ:aG} {T:Nat->Prop}
  (h:fP B tm sf A D nt a w ρ T) {nxt n:Nat} {v:SV} {u:dB} {wr:List Nat} {ρ':aG} {T':Nat->Prop} {w':World} {x:Value} {dst:Option Nat}
  (hd:eW ρ T w nxt n v u wr ρ' T' w' x) (hdst: ∀d,dst=some d->d<nt) (hB:B.n<=nxt)
  (hnew: ∀id,nxt<=id->id<n-> ¬A id) (hwr: ∀id,id∈wr->(sf id).isSome) (hf: ∀id x y,(id,x)∈u->(id,y)∈u->x=y)
  {D':List Nat} (hD: ∀p,p∈D->p∈D') (hD': ∀p,p∈wr->p∈D') {A':Nat->Prop} (hA: ∀id,A' id↔A id\/(nxt<=id/\id<n)):
  fP B (upd tm dst v) (nE sf u) A' D' nt (a.put dst x) w' ρ' T':=by
 have hgT:aX T w w':=hd.grow.mono fun b hb ⟨id,h1,h2⟩=>by
  obtain ⟨sb,hsb⟩:=Option.isSome_iff_exists.1 (hwr id h1)
  obtain ⟨_,b',h3,h4,_⟩:=h.store id sb hsb
  rw [h2] at h3;cases h3;exact h4
 have hmono: ∀(s:SV) (y:Value),rel ρ T w s y->rel ρ' T' w' s y:=fU hd.names hd.tback hgT
 have hkeep: ∀id sb,sf id=some sb->(∀o,(id,o)∉u)->id∉wr-> ∃b,ρ' id=some b/\T' b/\eF ρ' T' w' sb b:=by
  intro id sb hsb hnu hnw
  obtain ⟨_,b,h3,h4,h5⟩:=h.store id sb hsb
  have hlt:=aBU h5
  refine ⟨b,hd.names _ _ h3, ?_,pC hd.names hd.tback hgT (hd.grow.same b hlt ?_) h5⟩
  ·rcases hd.tkeep b hlt h4 with h6|⟨j,h6,h7,h8⟩
   ·exact h6
   ·have:=h.inj id j b (by rw [hsb];rfl) (hwr j h6) h3 h8
    subst this
    exact absurd h7 (hnu _)
  ·rintro ⟨j,h6,h7⟩
   have:=h.inj id j b (by rw [hsb];rfl) (hwr j h6) h3 h7
   subst this
   exact hnw h6
 have hdead: ∀q,sf q=none->q<B.n->nE sf u q=none:=by
  intro q hq hqn
  rcases kP sf u q with ⟨o,h1,h2⟩|⟨_,h2⟩
  ·rcases hd.keys q o h1 with h3|h3
   ·have:=hwr q h3;rw [hq] at this;cases this
   ·omega
  ·rw [h2];exact hq
 have hdeadU: ∀q,(q,none)∈u->nE sf u q=none:=by
  intro q hq
  rcases kP sf u q with ⟨o,h1,h2⟩|⟨h1,_⟩
  ·rw [h2];exact hf q o none h1 hq
  ·exact absurd hq (h1 _)
 have hconsumed: ∀j b,j∈wr->(j,none)∈u->ρ j=some b->
   (B.w.heap.size<=b\/ ∃q,q∈D'/\q<B.n/\nE sf u q=none/\B.ρ q=some b):=by
  intro j b hj hju hjb
  by_cases hjn:j<B.n
  ·by_cases hold:b<B.w.heap.size
   ·right
    refine ⟨j,hD' j hj,hjn,hdeadU j hju, ?_⟩
    obtain ⟨b',hb'⟩:=h.full j hjn
    have:=(h.old j b' hb').2
    rw [hjb] at this;cases this
    exact hb'
   ·left;omega
  ·rcases h.fresh j b (hwr j hj) (by omega) hjb with h1|⟨q,h1,h2,h3,h4⟩
   ·exact .inl h1
   ·exact .inr ⟨q,hD q h1,h2,hdead q h3 h2,h4⟩
 have halive: ∀(i:Nat) (b:Nat),(nE sf u i).isSome->A i->(sf i).isSome:=by
  intro i b hi hAi
  rcases kP sf u i with ⟨o,h1,h2⟩|⟨_,h2⟩
  ·rcases hd.keys i o h1 with h3|h3
   ·exact hwr i h3
   ·exact absurd hAi (hnew i h3.1 h3.2)
  ·rw [h2] at hi;exact hi
 have holdname: ∀i b,ρ' i=some b-> ¬(nxt<=i/\i<n)->ρ i=some b:=by
  intro i b hi hn
  exact (hd.only i b hi).resolve_right hn
 have mixed: ∀i j b,(nxt<=i/\i<n)-> ¬(nxt<=j/\j<n)->(nE sf u j).isSome->ρ' i=some b->ρ' j=some b->False:=by
  intro i j b hi hj hjs hib hjb
  have hjo:=holdname j b hjb hj
  have hAj:=(h.names j b hjo).1
  rcases hd.fresh i b hi.1 hi.2 hib with h1|⟨q,h1,h2,h3⟩
  ·have:=(h.names j b hjo).2;omega
  ·have:=h.inj q j b (hwr q h1) (halive j b hjs hAj) h3 hjo
   subst this
   rw [hdeadU q h2] at hjs;cases hjs
 refine {defers:= ?_,size:= ?_,tmps:= ?_,store:= ?_,names:= ?_,inj:= ?_,base:=fun id hid=>(hA id).2 (.inl (h.base id hid)),full:=h.full,grow:= ?_,old:= ?_,tback:= ?_,tkeep:= ?_,fresh:= ?_,inv:=h.inv.grow hd.tback hgT}
 ·have:=h.defers.grow hd.tback hgT
  cases dst<;>exact this
 ·cases dst with
  |none=>exact h.size
  |some d=>simp [Act.put,h.size]
 ·intro t
  cases dst with
  |none=>exact hmono _ _ (h.tmps t)
  |some d=>
   rw [ZC a d x (by rw [h.size];exact hdst d rfl)]
   unfold upd
   by_cases e:t=d
   ·simp only [e,if_true];exact hd.val
   ·simp only [e,if_false];exact hmono _ _ (h.tmps t)
 ·intro id sb hid
  rcases kP sf u id with ⟨o,h1,h2⟩|⟨h1,h2⟩
  ·rw [h2] at hid
   subst hid
   refine ⟨(hA id).2 ?_,hd.turned id sb h1⟩
   rcases hd.keys id _ h1 with h3|h3
   ·obtain ⟨sb',hsb'⟩:=Option.isSome_iff_exists.1 (hwr id h3)
    exact .inl (h.store id sb' hsb').1
   ·exact .inr h3
  ·rw [h2] at hid
   refine ⟨(hA id).2 (.inl (h.store id sb hid).1),hkeep id sb hid h1 fun hw=> ?_⟩
   obtain ⟨o,ho⟩:=hd.cover id hw
   exact h1 o ho
 ·intro id b hid
  rcases hd.only id b hid with h1|h1
  ·obtain ⟨h2,h3⟩:=h.names id b h1
   exact ⟨(hA id).2 (.inl h2),Nat.lt_of_lt_of_le h3 hd.grow.size⟩
  ·refine ⟨(hA id).2 (.inr h1), ?_⟩
   exact hd.below id b h1.1 h1.2 hid
 ·intro i j b hi hj hib hjb
  by_cases hin:nxt<=i/\i<n<;>by_cases hjn:nxt<=j/\j<n
  ·exact hd.inj i j b hin.1 hin.2 hjn.1 hjn.2 hib hjb
  ·exact (mixed i j b hin hjn hj hib hjb).elim
  ·exact (mixed j i b hjn hin hi hjb hib).elim
  ·have h1:=holdname i b hib hin
   have h2:=holdname j b hjb hjn
   exact h.inj i j b (halive i b hi (h.names i b h1).1) (halive j b hj (h.names j b h2).1) h1 h2
 ·refine (h.grow.mono fun b _ ⟨p,h1,h2,h3⟩=>⟨p,hD p h1,h2,h3⟩).trans hd.grow fun b hb ⟨id,h1,h2⟩=> ?_
  by_cases hin:id<B.n
  ·obtain ⟨b',hb'⟩:=h.full id hin
   have:=(h.old id b' hb').2
   rw [h2] at this;cases this
   exact ⟨id,hD' id h1,hin,hb'⟩
  ·rcases h.fresh id b (hwr id h1) (by omega) h2 with h3|⟨q,h3,h4,_,h5⟩
   ·omega
   ·exact ⟨q,hD q h3,h4,h5⟩
 ·intro p b hp
  exact ⟨(h.old p b hp).1,hd.names _ _ (h.old p b hp).2⟩
 ·intro b hb hT
  exact h.tback b hb (hd.tback b (Nat.lt_of_lt_of_le hb h.grow.size) hT)
 ·intro b hlt hb
  rcases h.tkeep b hlt hb with h1|⟨q,h1,h2,h3,h4⟩
  ·rcases hd.tkeep b (Nat.lt_of_lt_of_le hlt h.grow.size) h1 with h2|⟨j,h2,h3,h4⟩
   ·exact .inl h2
   ·rcases hconsumed j b h2 h3 h4 with h5|h5
    ·omega
    ·exact .inr h5
  ·exact .inr ⟨q,hD q h1,h2,hdead q h3 h2,h4⟩
 ·intro id b hid hn hib
  by_cases hin:nxt<=id/\id<n
  ·rcases hd.fresh id b hin.1 hin.2 hib with h1|⟨q,h1,h2,h3⟩
   ·left;exact Nat.le_trans h.grow.size h1
   ·exact hconsumed q b h1 h2 h3
  ·have h1:=holdname id b hib hin
   rcases h.fresh id b (halive id b hid (h.names id b h1).1) hn h1 with h2|⟨q,h2,h3,h4,h5⟩
   ·exact .inl h2
   ·exact .inr ⟨q,hD q h2,h3,hdead q h4 h3,h5⟩
theorem fP.put {B:kG P} {tm:Nat->SV} {sf:Nat->Option SB} {A:Nat->Prop} {Ds:List Nat} {nt:Nat} {a:Act} {w w':World} {ρ:aG} {T:Nat->Prop} {D:Nat}
  (h:fP B tm sf A Ds nt a w ρ T) (hp:Put D w w') (hD:B.w.heap.size<=D) (hnT: ¬T D) {ds:List Deferred} (hds:vL B.w.heap.size T w' ds):fP B tm sf A Ds nt {a with defers:=ds} w' ρ T where
 defers:=hds
 size:=h.size
 tmps:=fun t=>mF hp _ _ (h.tmps t)
 store:=fun id sb hid=>by
  obtain ⟨h1,b,h2,h3,h4⟩:=h.store id sb hid
  exact ⟨h1,b,h2,h3,B9 hp (by rintro rfl;exact hnT h3) h4⟩
 names:=fun id b hid=>by rw [hp.size];exact h.names id b hid
 inj:=h.inj
 base:=h.base
 full:=h.full
 grow:=h.grow.trans (aX.turn hp) fun b hb e=>by omega
 old:=h.old
 tback:=h.tback
 tkeep:=h.tkeep
 fresh:=h.fresh
 inv:=fun g v hg=>⟨(h.inv g v hg).1,hp.cell (h.inv g v hg).2⟩
theorem vR{fn:Func}{R:Ending->World->Prop}{B:kG P}{tm:Nat->SV}{sf:Nat->Option SB}{A:Nat->Prop}{Ds:List Nat}{nt:Nat}{ρ:aG}{T:Nat->Prop}:
  ∀(l:List Nat) (a:Act) (w:World),a.defers=l.map (fun D=>({target:= .collected D,args:= #[]}:Deferred))->l.Nodup->(∀D∈l,B.w.heap.size<=D/\ ¬T D/\w.heap[D]? =some (.deferred (some [])))->
   fP B tm sf A Ds nt a w ρ T->
   (∀(a':Act) (w':World),a'.tmps=a.tmps->fP B tm sf A Ds nt a' w' ρ T-> ∃v,(results fn a.tmps).run P w'= .ok v w'/\R (.returned v) w')->LeavesInM Fence.wide 0 P fn a.tmps R a.defers .returning w
 | [],a,w,hd,_,_,hh,hend=>by rw [hd];exact hend a w rfl hh
 |D::l,a,w,hd,hnd,hall,hh,hend=>by
  obtain ⟨k1,k2,k3⟩:=hall D (List.mem_cons_self ..)
  rw [List.nodup_cons] at hnd
  have hp:=nA (o':= .deferred none) k3 (fun _ _ _ e=>by cases e)
  have hrest: ∀D'∈l,B.w.heap.size<=D'/\ ¬T D'/\(w.putObj D (.deferred none)).heap[D']? =some (.deferred (some [])):=fun D' hD'=>by
   obtain ⟨j1,j2,j3⟩:=hall D' (List.mem_cons_of_mem _ hD')
   exact ⟨j1,j2,by rw [hp.same D' (by rintro rfl;exact hnd.1 hD')];exact j3⟩
  have hh':=hh.put hp k1 k2 (ds:=l.map (fun D=>({target:= .collected D,args:= #[]}:Deferred))) ⟨l,rfl,hnd.2,hrest⟩
  rw [hd]
  refine ⟨by simp,.inl ⟨D,_,rfl,run_takeDeferred k3, ?_⟩⟩
  exact vR l {a with defers:=l.map (fun D=>({target:= .collected D,args:= #[]}:Deferred))} _ rfl hnd.2 hrest hh' hend
end Go.Se
namespace Go.Se
variable {P:Program}
structure cK where
 o:Oper
 st:St
 v:SV
 u:dB
 n:Nat
 rd:List Nat
 wr:List Nat
 g:Option Nat
 ex:Bool
def cK.post(s:cK):St:=sC s.st s.o.dst s.v s.u s.n s.wr
def cK.looks(s:cK):List Nat:=s.g.toList++(if s.ex then vP s.o else [])
def cK.writes(s:cK):List Nat:=s.wr++rM s.st.nxt (s.n - s.st.nxt)
def cK.toRec(s:cK)(i:Nat):Rec:=⟨i,s.o.dst,s.looks,s.rd,s.writes⟩
structure GN (P:Program) (all:List Oper) (s:cK):Prop where
 nxt:s.st.nxt<=s.n
 alive: ∀id,id∈s.rd\/id∈s.wr-> ∃sb,aI s.st.store id=some sb
 func:gK s.st s.u
 keys: ∀id o,(id,o)∈s.u->id∈s.wr\/(s.st.nxt<=id/\id<s.n)
 run:(s.ex=true/\eX P s.st s.o s.v s.u s.n s.rd s.wr/\
   ((s.o.guard=none/\s.g=none)\/ ∃j want t,s.o.guard=some (j,want)/\(all[j]?).bind (·.dst)=some t/\s.g=some t/\get s.st.tmps t= .bool want))\/
  (s.ex=false/\s.v= .tup []/\s.u=[]/\s.n=s.st.nxt/\s.rd=[]/\s.wr=[]/\
   ∃j want t,s.o.guard=some (j,want)/\(all[j]?).bind (·.dst)=some t/\s.g=some t/\(get s.st.tmps t= .bool (!want)\/get s.st.tmps t= .tup []))
structure HR (a b:St):Prop where
 tmps: ∀t,get a.tmps t=get b.tmps t
 store:a.store=b.store
 nxt:a.nxt=b.nxt
 dirty:a.dirty=b.dirty
 nt:a.nt=b.nt
theorem HR.refl(a:St):HR a a:=⟨fun _=>rfl,rfl,rfl,rfl,rfl⟩
theorem mY{l:kB}{t:Nat}{v:SV}(h:get l t=v)(t':Nat):get (oJ l t v) t'=get l t':=by
 induction l with
 |nil=>rfl
 |cons p l ih=>
  obtain ⟨u,x⟩:=p
  simp only [get] at h
  simp only [oJ]
  cases hb:Nat.beq u t with
  |true=>
   rw [hb] at h
   simp only [cond_true] at h
   subst h
   rfl
  |false=>
   rw [hb] at h
   simp only [cond_false,get]
   rw [ih h]
theorem jJ{st:St}{t:Nat}{b:Bool}(h:get st.tmps t= .bool b):HR st {st with tmps:=oJ st.tmps t (.bool b)}:=
 ⟨fun t'=>(mY h t').symm,rfl,rfl,rfl,rfl⟩
inductive uG (P:Program) (all:List Oper):St->List cK->St->Prop where
 |nil (st:St):uG P all st [] st
 |cons {st st':St} {s:cK} {l:List cK}:HR st s.st->GN P all s->uG P all s.post l st'->uG P all st (s::l) st'
def wM :Nat->List cK->List Rec
 |_,[]=>[]
 |i,s::l=>s.toRec i::wM (i+1) l
theorem kZ{env:Env}(he:oG P env){all:List Oper}{K:St->List Rec->Prop}: ∀(r:List Oper) (i:Nat) (st:St) (tr:List Rec),
  kU env all r i st tr K-> ∃l st',uG P all st l st'/\l.map (·.o)=r/\K st' ((wM i l).reverse++tr)
 | [],i,st,tr,h=>⟨[],st,.nil st,rfl,h⟩
 |o::r,i,st,tr,h=>by
  have run: ∀(st2:St) (g:Option Nat),HR st st2->
    ((o.guard=none/\g=none)\/ ∃j want t,o.guard=some (j,want)/\(all[j]?).bind (·.dst)=some t/\g=some t/\get st2.tmps t= .bool want)->
    (H2 env st2 o.op fun v u n rd wr=>kU env all r (i+1) (sC st2 o.dst v u n wr) (⟨i,o.dst,g.toList++vP o,rd,wr++rM st2.nxt (n - st2.nxt)⟩::tr) K)->
    ∃l st',uG P all st l st'/\l.map (·.o)=o::r/\K st' ((wM i l).reverse++tr):=by
   intro st2 g hs hw h
   obtain ⟨v,u,n,rd,wr,hK,hn,hal,hfu,hky,hok⟩:=V9 he (o:=o) h
   obtain ⟨l,st',hc,hl,hK'⟩:=kZ he r (i+1) _ _ hK
   let s:cK:=⟨o,st2,v,u,n,rd,wr,g,true⟩
   refine ⟨s::l,st',.cons hs ⟨hn,hal,hfu,hky,.inl ⟨rfl,hok,hw⟩⟩ hc,by simp [hl,s], ?_⟩
   simp only [wM,List.reverse_cons,List.append_assoc,List.singleton_append]
   exact hK'
  have skip: ∀(st2:St) (t:Nat),HR st st2->
    (∃j want,o.guard=some (j,want)/\(all[j]?).bind (·.dst)=some t/\(get st2.tmps t= .bool (!want)\/get st2.tmps t= .tup []))->
    kU env all r (i+1) (sC st2 o.dst (.tup []) [] st2.nxt []) (⟨i,o.dst,[t],[],[]⟩::tr) K->
    ∃l st',uG P all st l st'/\l.map (·.o)=o::r/\K st' ((wM i l).reverse++tr):=by
   rintro st2 t hs ⟨j,want,h1,h2,h3⟩ h
   obtain ⟨l,st',hc,hl,hK'⟩:=kZ he r (i+1) _ _ h
   let s:cK:=⟨o,st2,.tup [],[],st2.nxt,[],[],some t,false⟩
   refine ⟨s::l,st',.cons hs ⟨Nat.le_refl _,by simp [s],gK.nil,by simp [s],.inr ⟨rfl,rfl,rfl,rfl,rfl,rfl,j,want,t,h1,h2,rfl,h3⟩⟩ hc,by simp [hl,s], ?_⟩
   have hw:s.writes=[]:=by simp [cK.writes,s,rM]
   simp only [wM,List.reverse_cons,List.append_assoc,List.singleton_append,cK.toRec,hw]
   exact hK'
  simp only [kU] at h
  split at h
  ·rename_i hg
   exact run st none (HR.refl _) (.inl ⟨hg,rfl⟩) h
  ·rename_i j want hg
   split at h
   ·exact h.elim
   ·rename_i t ht
    split at h
    ·rename_i b hb
     rcases Br.elim h with ⟨rfl,h⟩|⟨rfl,h⟩
     ·cases want
      ·exact skip _ t (jJ hb) ⟨j,false,hg,ht,.inl (by rw [mY hb];exact hb)⟩ h
      ·exact run _ (some t) (jJ hb) (.inr ⟨j,true,t,hg,ht,rfl,by rw [mY hb];exact hb⟩) h
     ·cases want
      ·exact run _ (some t) (jJ hb) (.inr ⟨j,false,t,hg,ht,rfl,by rw [mY hb];exact hb⟩) h
      ·exact skip _ t (jJ hb) ⟨j,true,hg,ht,.inl (by rw [mY hb];exact hb)⟩ h
    ·rename_i hb
     exact skip st t (HR.refl _) ⟨j,want,hg,ht,.inr hb⟩ h
    ·exact h.elim
theorem wV{ops:Array Oper}{tmps:Array Value}{j t:Nat}{b:Bool}(h:(ops[j]?).bind (·.dst)=some t)(hv:tmps.getD t undef= .bool b):
  yielded ops tmps j=some b:=by
 unfold yielded
 rw [h,Option.bind_some]
 rw [Array.getD_eq_getD_getElem?] at hv
 cases ht:tmps[t]? with
 |none=>rw [ht] at hv;simp [undef] at hv
 |some x=>rw [ht] at hv;simp only [Option.getD_some] at hv;rw [hv]
theorem D6{ops:Array Oper}{tmps:Array Value}{j t:Nat}(h:(ops[j]?).bind (·.dst)=some t)(hv:tmps.getD t undef= .tuple #[]):
  yielded ops tmps j=none:=by
 unfold yielded
 rw [h,Option.bind_some]
 rw [Array.getD_eq_getD_getElem?] at hv
 cases ht:tmps[t]? with
 |none=>rfl
 |some x=>rw [ht] at hv;simp only [Option.getD_some] at hv;rw [hv]
theorem Q3 {ops:Array Oper} {s:cK} (hs:GN P ops.toList s) {i:Nat} (hi:ops[i]? =some s.o)
  {B:kG P} {tm:Nat->SV} {sf:Nat->Option SB} {A A':Nat->Prop} {D D':List Nat} {nt:Nat} {a:Act} {w:World} {ρ:aG} {T:Nat->Prop}
  (h:fP B tm sf A D nt a w ρ T) (htm: ∀t,t∈s.looks->tm t=get s.st.tmps t) (hsf: ∀id,id∈s.rd\/id∈s.wr->sf id=aI s.st.store id)
  (hnew: ∀id,s.st.nxt<=id->id<s.n-> ¬A id) (hB:B.n<=s.st.nxt) (hdst: ∀d,s.o.dst=some d->d<nt) (hlt: ∀id sb,aI s.st.store id=some sb->id<s.st.nxt)
  (hD: ∀p,p∈D->p∈D') (hD': ∀p,p∈s.wr->p∈D') (hA: ∀id,A' id↔A id\/(s.st.nxt<=id/\id<s.n))
  {K:Act->World->Prop} {Q:Exit->Act->World->Prop} (hK: ∀a' w' ρ' T',fP B (upd tm s.o.dst s.v) (nE sf s.u) A' D' nt a' w' ρ' T'->K a' w') {F:Fence} {n:Nat} (hF:Wd F):
  wpOpIn F n P ops Q i K a w:=by
 unfold wpOpIn
 rw [hi]
 simp only
 have hsome: ∀id,id∈s.rd\/id∈s.wr->(sf id).isSome:=by
  intro id hid
  obtain ⟨sb,hsb⟩:=hs.alive id hid
  rw [hsf id hid,hsb];rfl
 have hgt: ∀(j t:Nat),(ops.toList[j]?).bind (fun (x:Oper)=>x.dst)=some t->(ops[j]?).bind (fun (x:Oper)=>x.dst)=some t:=by
  intro j t h;rw [Array.getElem?_toList] at h;exact h
 rcases hs.run with ⟨hex,hok,hw⟩|⟨hex,hv,hu,hn,hrd,hwr,j,want,t,hg,ht,hgt',hval⟩
 ·have hwant:Region.wanted s.o (yielded ops a.tmps)=true:=by
   rcases hw with ⟨hg,_⟩|⟨j,want,t,hg,ht,hgt',hval⟩
   ·simp [Region.wanted,hg]
   ·have h1:=h.tmps t
    rw [htm t (by simp [cK.looks,hgt']),hval] at h1
    have h2:a.tmps.getD t undef= .bool want:=h1
    simp [Region.wanted,hg,wV (hgt j t ht) h2]
  rw [hwant]
  simp only [if_true]
  refine hok ρ T a w K Q ?_ ?_ ?_ ⟨fun id b hid=>(h.names id b hid).2,h.inv⟩ ?_ ?_ F n hF
  ·intro x hx
   refine LD fun t hxt=> ?_
   subst hxt
   have:=h.tmps t
   rw [htm t] at this
   ·exact this
   ·simp only [cK.looks,hex,if_true,List.mem_append]
    right
    simp only [vP,List.mem_filterMap]
    exact ⟨.tmp t,by simpa using hx,rfl⟩
  ·intro id hid
   obtain ⟨sb,hsb⟩:=hs.alive id hid
   obtain ⟨_,b,h1,h2,h3⟩:=h.store id sb (by rw [hsf id hid];exact hsb)
   exact ⟨sb,b,hsb,h1,h2,h3⟩
  ·intro p q b hp hq h1 h2
   exact h.inj p q b (hsome p hp) (hsome q hq) h1 h2
  ·intro id h1 h2
   cases hρ:ρ id with
   |none=>rfl
   |some b=>exact absurd (h.names id b hρ).1 (hnew id h1 h2)
  ·intro x w' ρ' T' hd
   exact hK _ _ ρ' T' (h.done hd hdst hB hnew (fun id hid=>hsome id (.inr hid)) (hs.func hlt) hD hD' hA)
 ·have hwant:Region.wanted s.o (yielded ops a.tmps)=false:=by
   have h1:=h.tmps t
   rw [htm t (by simp [cK.looks,hgt'])] at h1
   rcases hval with hval|hval
   ·rw [hval] at h1
    have h2:a.tmps.getD t undef= .bool (!want):=h1
    simp only [Region.wanted,hg,wV (hgt j t ht) h2]
    cases want<;>rfl
   ·rw [hval] at h1
    obtain ⟨vs,h2,h3⟩:=h1
    have h4:vs.toList=[]:=h3
    have h5:vs= #[]:=by apply Array.ext';exact h4
    subst h5
    simp only [Region.wanted,hg,D6 (hgt j t ht) h2]
    rfl
  rw [hwant]
  simp only [Bool.false_eq_true,if_false]
  refine ⟨fun f _=>hF.fn f,hK _ _ ρ T ?_⟩
  rw [hv,hu]
  exact h.done (eW.pure (n:=s.st.nxt) (v:= .tup []) (x:=undef) ⟨#[],rfl,rfl⟩) hdst hB (fun id h1 h2=>by omega) (by simp) (by simp) hD (by simp) (by rw [hn] at hA;exact hA)
def pT(s:cK)(t:Nat):Option SV:=match s.o.dst with
 |some d=>if t=d then some s.v else none
 |none=>none
def C4(u:dB)(id:Nat):Option (Option SB):=
 match u with
 | []=>none
 |(i,o)::u=>if id=i then some o else C4 u id
def pS(s:cK)(id:Nat):Option (Option SB):=C4 s.u id
section
variable {β:Type}
def sM(f:Nat->β)(p:Nat->Option β):Nat->β:=fun t=>match p t with
 |some b=>b
 |none=>f t
def cZ(p:cK->Nat->Option β)(S:Nat->Bool):Nat->List cK->(Nat->β)->Nat->β
 |_,[],f=>f
 |k,s::l,f=>cZ p S (k+1) l (if S k then sM f (p s) else f)
theorem qB(p:cK->Nat->Option β)(S:Nat->Bool): ∀(l1 l2:List cK) (o:Nat) (f:Nat->β),
  cZ p S o (l1++l2) f=cZ p S (o+l1.length) l2 (cZ p S o l1 f)
 | [],l2,o,f=>rfl
 |s::l1,l2,o,f=>by
  simp only [List.cons_append,cZ,List.length_cons]
  rw [qB p S l1 l2 (o+1),show o+1+l1.length=o+(l1.length+1) by omega]
theorem fZ{p:cK->Nat->Option β}{S S':Nat->Bool}{t:Nat}: ∀(l:List cK) (o:Nat) (f f':Nat->β),
  (∀k s,l[k]? =some s->(p s t).isSome->S (o+k)=S' (o+k))->f t=f' t->cZ p S o l f t=cZ p S' o l f' t
 | [],o,f,f',_,h=>h
 |s::l,o,f,f',hk,h=>by
  simp only [cZ]
  refine fZ l (o+1) _ _ (fun k s' hs hp=> ?_) ?_
  ·have:=hk (k+1) s' (by simpa using hs) hp
   rw [show o+1+k=o+(k+1) by omega];exact this
  ·cases hp:p s t with
   |none=>
    have h1:(if S o then sM f (p s) else f) t=f t:=by split<;>simp [sM,hp]
    have h2:(if S' o then sM f' (p s) else f') t=f' t:=by split<;>simp [sM,hp]
    rw [h1,h2,h]
   |some b=>
    have:=hk 0 s (by simp) (by rw [hp];rfl)
    rw [Nat.add_zero] at this
    rw [this]
    split
    ·simp [sM,hp]
    ·exact h
theorem FA {p:cK->Nat->Option β} {S S':Nat->Bool} {l:List cK} {i:Nat} {s:cK} (hi:l[i]? =some s) (hS: ∀k,k≠i->S' k=S k) (h1:S' i=true) (h0:S i=false)
  {f:Nat->β} {t:Nat} (hlast:(p s t).isSome-> ∀k s',l[k]? =some s'->i<k->(p s' t).isSome->S k=false):
  cZ p S' 0 l f t=sM (cZ p S 0 l f) (p s) t:=by
 obtain ⟨hlt,hget⟩:=List.getElem?_eq_some_iff.1 hi
 have hsplit:l=l.take i++s::l.drop (i+1):=by
  rw [<- hget,<- List.drop_eq_getElem_cons hlt,List.take_append_drop]
 have hlen:(l.take i).length=i:=by simp;omega
 have hg:cZ p S' 0 (l.take i) f=cZ p S 0 (l.take i) f:=by
  funext t
  refine fZ _ _ _ _ (fun k s' hs _=> ?_) rfl
  rw [Nat.zero_add]
  refine hS k ?_
  have:=(List.getElem?_eq_some_iff.1 hs).1
  omega
 have e1:cZ p S' 0 l f=cZ p S' (i+1) (l.drop (i+1)) (sM (cZ p S 0 (l.take i) f) (p s)):=by
  conv=>lhs;rw [hsplit]
  rw [qB,hlen,Nat.zero_add,cZ,h1,hg];rfl
 have e2:cZ p S 0 l f=cZ p S (i+1) (l.drop (i+1)) (cZ p S 0 (l.take i) f):=by
  conv=>lhs;rw [hsplit]
  rw [qB,hlen,Nat.zero_add,cZ,h0];rfl
 rw [e1,sM,e2]
 cases hp:p s t with
 |none=>
  refine fZ _ _ _ _ (fun k s' _ _=>hS _ (by omega)) ?_
  simp [sM,hp]
 |some b=>
  have:cZ p S' (i+1) (l.drop (i+1)) (sM (cZ p S 0 (l.take i) f) (p s)) t=cZ p (fun _=>false) (i+1) (l.drop (i+1)) (sM (cZ p S 0 (l.take i) f) (p s)) t:=by
   refine fZ _ _ _ _ (fun k s' hs hps=> ?_) rfl
   rw [hS _ (by omega)]
   refine hlast (by rw [hp];rfl) (i+1+k) s' ?_ (by omega) hps
   rw [List.getElem?_drop] at hs;exact hs
  rw [this]
  have hno: ∀(l:List cK) (o:Nat) (f:Nat->β),cZ p (fun _=>false) o l f=f:=by
   intro l
   induction l with
   |nil=>intro o f;rfl
   |cons s l ih=>intro o f;simp [cZ,ih]
  rw [hno]
  simp [sM,hp]
end
theorem MU(f:Nat->SV)(s:cK):upd f s.o.dst s.v=sM f (pT s):=by
 funext t
 unfold upd sM pT
 cases s.o.dst with
 |none=>rfl
 |some d=>by_cases h:t=d<;>simp [h]
theorem G4(f:Nat->Option SB)(s:cK):nE f s.u=sM f (pS s):=by
 funext id
 unfold sM pS
 generalize s.u=u
 induction u with
 |nil=>rfl
 |cons p u ih=>
  obtain ⟨i,o⟩:=p
  by_cases h:id=i
  ·simp [nE,C4,h]
  ·simp only [nE,C4,h,if_false];exact ih
theorem BY(s:cK):get s.post.tmps=upd (get s.st.tmps) s.o.dst s.v:=by
 funext t
 unfold cK.post sC upd
 cases s.o.dst with
 |none=>rfl
 |some d=>
  simp only [get]
  by_cases h:t=d
  ·subst h;simp
  ·have:Nat.beq d t=false:=by rw [Bool.eq_false_iff];intro e;exact h (Nat.eq_of_beq_eq_true e).symm
   simp [this,h]
theorem tH(s:cK):aI s.post.store=nE (aI s.st.store) s.u:=by
 funext id
 exact xN _ _ _
theorem eD : ∀(r l:List Nat) (x:Nat),x∈iS l r↔x∈l\/x∈r
 | [],l,x=>by simp [iS]
 |y::r,l,x=>by
  simp only [iS]
  cases h:l.any (Nat.beq y) with
  |true=>
   have:=jQ.1 h
   simp only [cond_true]
   rw [eD r l x,List.mem_cons]
   constructor
   ·rintro (h|h)
    ·exact .inl h
    ·exact .inr (.inr h)
   ·rintro (h|rfl|h)
    ·exact .inl h
    ·exact .inl this
    ·exact .inr h
  |false=>
   simp only [cond_false]
   rw [eD r (y::l) x,List.mem_cons,List.mem_cons]
   constructor
   ·rintro ((rfl|h)|h)
    ·exact .inr (.inl rfl)
    ·exact .inl h
    ·exact .inr (.inr h)
   ·rintro (h|rfl|h)
    ·exact .inl (.inr h)
    ·exact .inl (.inl rfl)
    ·exact .inr h
def Now(B:kG P)(st:St)(a:Act)(w:World):Prop:=
 B.n<=st.nxt/\ ∃ρ T,fP B (get st.tmps) (aI st.store) (fun id=>id<st.nxt) st.dirty st.nt a w ρ T
theorem NN{ops:Array Oper}{Q:Exit->Act->World->Prop}{B:kG P}{F:Fence}{n:Nat}(hF:Wd F): ∀{l:List cK} {st st':St},uG P ops.toList st l st'-> ∀(k:Nat) (a:Act) (w:World),
  (∀j,(l.map (·.o))[j]? =ops[k+j]?)->Now B st a w->(∀s∈l,∀d,s.o.dst=some d->d<st.nt)->
  (∀a' w',Now B st' a' w'->Q .normal a' w')->wpOpsIn F n P ops Q (List.range' k l.length) a w:=by
 intro l st st' hc
 induction hc with
 |nil st=>intro k a w _ h _ hQ;exact hQ a w h
 | @cons st st' s l hsame hok hc ih=>
  intro k a w hops ⟨hB,ρ,T,h⟩ hd hQ
  simp only [List.length_cons,List.range'_succ]
  rw [wpOpsIn_cons]
  have hi:ops[k]? =some s.o:=by have:=hops 0;simp at this;exact this.symm
  have ht:get st.tmps=get s.st.tmps:=funext hsame.tmps
  have h0:=h
  rw [ht,hsame.store,hsame.nxt,hsame.dirty,hsame.nt] at h0
  rw [hsame.nxt] at hB
  refine Q3 hok hi h0 (fun _ _=>rfl) (fun _ _=>rfl) (fun id h1 _ h2=>by omega) hB (fun d hdst=>by have:=hd s (by simp) d hdst;rw [hsame.nt] at this;exact this)
   (fun id sb hl=>(h0.store id sb hl).1) (D':=s.post.dirty) (A':=fun id=>id<s.post.nxt) ?_ ?_ ?_ ?_ hF
  ·intro p hp;exact (eD _ _ _).2 (.inl hp)
  ·intro p hp;exact (eD _ _ _).2 (.inr hp)
  ·intro id
   show id<s.n↔id<s.st.nxt\/(s.st.nxt<=id/\id<s.n)
   have:=hok.nxt
   omega
  ·intro a' w' ρ' T' h1
   refine ih (k+1) a' w' (fun j=> ?_) ⟨Nat.le_trans hB hok.nxt,ρ',T', ?_⟩ (fun s' hs' d hdst=> ?_) hQ
   ·have:=hops (j+1)
    rw [show k+1+j=k+(j+1) by omega];simpa using this
   ·rw [BY,tH];exact h1
   ·have:=hd s' (by simp [hs']) d hdst
    rw [hsame.nt] at this;exact this
end Go.Se
namespace Go.Se
variable {P:Program}
structure aEm (P:Program) (all:List Oper) (o:Nat) (st st':St) (l:List cK) (i:Nat) (s:cK):Prop where
 ok:GN P all s
 tm:get s.st.tmps=cZ pT (fun k=>decide (k<o+i)) o l (get st.tmps)
 sf:aI s.st.store=cZ pS (fun k=>decide (k<o+i)) o l (aI st.store)
 nt:s.st.nt=st.nt
 lo:st.nxt<=s.st.nxt
 hi:s.n<=st'.nxt
 after: ∀(k:Nat) (s':cK),l[k]? =some s'->i<k->s.n<=s'.st.nxt
 wr: ∀p,p∈s.wr->p∈st'.dirty
 scope:(∀id sb,aI st.store id=some sb->id<st.nxt)-> ∀id sb,aI s.st.store id=some sb->id<s.st.nxt
theorem mT{β:Type}(p:cK->Nat->Option β)(S:Nat->Bool): ∀(l:List cK) (o:Nat) (f:Nat->β),(∀k,o<=k->S k=false)->cZ p S o l f=f
 | [],_,_,_=>rfl
 |s::l,o,f,h=>by
  simp only [cZ,h o (Nat.le_refl _),Bool.false_eq_true,if_false]
  exact mT p S l (o+1) f fun k hk=>h k (by omega)
structure VS (st st':St) (l:List cK) (o:Nat):Prop where
 tm:get st'.tmps=cZ pT (fun _=>true) o l (get st.tmps)
 sf:aI st'.store=cZ pS (fun _=>true) o l (aI st.store)
 nt:st'.nt=st.nt
 dirty: ∀p,p∈st.dirty->p∈st'.dirty
 nxt: ∀id,id<st'.nxt↔id<st.nxt\/ ∃(k:Nat) (s:cK),l[k]? =some s/\s.st.nxt<=id/\id<s.n
 le:st.nxt<=st'.nxt
theorem u9{all:List Oper}{st st':St}{l:List cK}(hc:uG P all st l st'): ∀o,VS st st' l o:=by
 induction hc with
 |nil st=>exact fun o=>⟨rfl,rfl,rfl,fun _ h=>h,fun id=>by simp,Nat.le_refl _⟩
 | @cons st st' s l hsame hok hc ih=>
  intro o
  have h:=ih (o+1)
  have ht:get st.tmps=get s.st.tmps:=funext hsame.tmps
  refine ⟨?_, ?_, ?_, ?_, ?_, ?_⟩
  ·rw [h.tm,BY,MU,ht];rfl
  ·rw [h.sf,tH,G4,hsame.store];rfl
  ·rw [h.nt,hsame.nt];rfl
  ·intro p hp
   rw [hsame.dirty] at hp
   exact h.dirty p ((eD _ _ _).2 (.inl hp))
  ·intro id
   rw [h.nxt id]
   have hn:s.post.nxt=s.n:=rfl
   have hle:=hok.nxt
   rw [hn,hsame.nxt]
   constructor
   ·rintro (h1|⟨k,s',h1,h2⟩)
    ·by_cases h2:id<s.st.nxt
     ·exact .inl h2
     ·exact .inr ⟨0,s,rfl,by omega,h1⟩
    ·exact .inr ⟨k+1,s',by simpa using h1,h2⟩
   ·rintro (h1|⟨k,s',h1,h2,h3⟩)
    ·left;omega
    ·cases k with
     |zero=>simp at h1;subst h1;exact .inl h3
     |succ k=>exact .inr ⟨k,s',by simpa using h1,h2,h3⟩
  ·have:=h.le
   have hn:s.post.nxt=s.n:=rfl
   have hle:=hok.nxt
   rw [hsame.nxt];omega
theorem AM{all:List Oper}{st st':St}{l:List cK}(hc:uG P all st l st'): ∀(o i:Nat) (s:cK),l[i]? =some s->aEm P all o st st' l i s:=by
 induction hc with
 |nil st=>intro o i s h;simp at h
 | @cons st st' s0 l hsame hok hc ih=>
  intro o i s hi
  have ht:get st.tmps=get s0.st.tmps:=funext hsame.tmps
  have hends:=u9 hc (o+1)
  cases i with
  |zero=>
   simp only [List.getElem?_cons_zero,Option.some.injEq] at hi
   subst hi
   refine ⟨hok, ?_, ?_,hsame.nt.symm,by rw [hsame.nxt];exact Nat.le_refl _,hends.le, ?_, ?_, ?_⟩
   ·rw [mT _ _ _ _ _ (fun k hk=>by simp;omega),ht]
   ·rw [mT _ _ _ _ _ (fun k hk=>by simp;omega),hsame.store]
   ·intro k s' hk hlt
    obtain ⟨j,rfl⟩: ∃j,k=j+1:=⟨k - 1,by omega⟩
    exact (ih (o+1) j s' (by simpa using hk)).lo
   ·intro p hp
    exact hends.dirty p ((eD _ _ _).2 (.inr hp))
   ·intro h id sb hid
    rw [hsame.store,hsame.nxt] at h
    exact h id sb hid
  |succ i=>
   have h:=ih (o+1) i s (by simpa using hi)
   refine ⟨h.ok, ?_, ?_,h.nt.trans hsame.nt.symm, ?_,h.hi, ?_,h.wr, ?_⟩
   ·rw [h.tm,BY,MU,<- ht]
    simp only [cZ,show decide (o<o+(i+1))=true by simp,if_true]
    rw [show o+1+i=o+(i+1) by omega]
   ·rw [h.sf,tH,G4,<- hsame.store]
    simp only [cZ,show decide (o<o+(i+1))=true by simp,if_true]
    rw [show o+1+i=o+(i+1) by omega]
   ·have h1:=h.lo
    have hn:s0.post.nxt=s0.n:=rfl
    have:=hok.nxt
    rw [hsame.nxt];omega
   ·intro k s' hk hlt
    obtain ⟨j,rfl⟩: ∃j,k=j+1:=⟨k - 1,by omega⟩
    exact h.after j s' (by simpa using hk) (by omega)
   ·intro hlt
    refine h.scope fun id sb hid=> ?_
    rw [hsame.store,hsame.nxt] at hlt
    rw [tH] at hid
    have hn:s0.post.nxt=s0.n:=rfl
    have hle:=hok.nxt
    rw [hn]
    rcases kP (aI s0.st.store) s0.u id with ⟨o',h1,h2⟩|⟨_,h2⟩
    ·rcases hok.keys id o' h1 with h3|h3
     ·obtain ⟨sb',hsb'⟩:=hok.alive id (.inr h3)
      have:=hlt id sb' hsb'
      omega
     ·exact h3.2
    ·rw [h2] at hid
     have:=hlt id sb hid
     omega
theorem sF{bs:List Nat}: ∀{tr:List Rec},jG bs tr=true->tr.Pairwise fun b a=>qX a b=true->(bs.getD b.i 0).testBit a.i=true
 | [],_=>List.Pairwise.nil
 |b::r,h=>by
  simp only [jG,Bool.and_eq_true,List.all_eq_true] at h
  refine List.Pairwise.cons (fun a ha hcl=> ?_) (sF h.2)
  have:=h.1 a ha
  rw [hcl] at this
  simpa using this
theorem CO : ∀(l:List cK) (o i:Nat),(wM o l)[i]? =(l[i]?).map (·.toRec (o+i))
 | [],o,i=>by simp [wM]
 |s::l,o,0=>by simp [wM]
 |s::l,o,i+1=>by
  simp only [wM,List.getElem?_cons_succ]
  rw [CO l (o+1) i,show o+1+i=o+(i+1) by omega]
theorem yB {bs:List Nat} {l:List cK} (h:jG bs (wM 0 l).reverse=true) {i j:Nat} {s s':cK} (hi:l[i]? =some s) (hj:l[j]? =some s') (hlt:i<j)
  (hcl:qX (s.toRec i) (s'.toRec j)=true):(bs.getD j 0).testBit i=true:=by
 have hp:=List.pairwise_reverse.1 (sF h)
 have h1:(wM 0 l)[i]? =some (s.toRec i):=by rw [CO,hi];simp
 have h2:(wM 0 l)[j]? =some (s'.toRec j):=by rw [CO,hj];simp
 obtain ⟨hi',e1⟩:=List.getElem?_eq_some_iff.1 h1
 obtain ⟨hj',e2⟩:=List.getElem?_eq_some_iff.1 h2
 have:=List.pairwise_iff_getElem.1 hp i j hi' hj' hlt
 rw [e1,e2] at this
 exact this hcl
def Y6(acc:List Nat)(o:Oper):Nat:=o.after.toList.foldl (fun s e=>bif Region.binds .any e then s|||(1<<<e.on)|||acc.getD e.on 0 else s) 0
theorem FJ{acc:List Nat}{a:Nat}: ∀(es:List Edge) (s:Nat),(es.foldl (fun s e=>bif Region.binds .any e then s|||(1<<<e.on)|||acc.getD e.on 0 else s) s).testBit a=true->
  s.testBit a=true\/ ∃e∈es,Region.binds .any e=true/\(e.on=a\/(acc.getD e.on 0).testBit a=true)
 | [],s,h=> .inl h
 |e::es,s,h=>by
  rw [List.foldl_cons] at h
  rcases FJ es _ h with h1|⟨e',h1,h2⟩
  ·cases hb:Region.binds .any e with
   |false=>rw [hb] at h1;exact .inl h1
   |true=>
    rw [hb] at h1
    simp only [cond_true,Nat.testBit_or,Bool.or_eq_true] at h1
    rcases h1 with (h1|h1)|h1
    ·exact .inl h1
    ·right
     refine ⟨e,by simp,hb,.inl ?_⟩
     rw [Nat.testBit_shiftLeft] at h1
     simp only [Bool.and_eq_true,decide_eq_true_eq] at h1
     have h3:=h1.2
     rw [show (1:Nat)=2^0 from rfl,Nat.testBit_two_pow] at h3
     simp at h3
     omega
    ·exact .inr ⟨e,by simp,hb,.inr h1⟩
  ·exact .inr ⟨e',by simp [h1],h2⟩
theorem sN : ∀(r:List Oper) (acc:List Nat) (j:Nat),j<acc.length->(i5 r acc).getD j 0=acc.getD j 0
 | [],acc,j,_=>rfl
 |o::r,acc,j,h=>by
  simp only [i5]
  rw [sN r _ j (by simp;omega)]
  simp only [List.getD_eq_getElem?_getD]
  rw [List.getElem?_append_left h]
theorem yQ : ∀(r:List Oper) (acc:List Nat) (i:Nat) (o:Oper),r[i]? =some o->
  ∃acc',acc'.length=acc.length+i/\(i5 r acc).getD (acc.length+i) 0=Y6 acc' o/\ ∀j,j<acc.length+i->(i5 r acc).getD j 0=acc'.getD j 0
 | [],acc,i,o,h=>by simp at h
 |o0::r,acc,0,o,h=>by
  simp only [List.getElem?_cons_zero,Option.some.injEq] at h
  subst h
  refine ⟨acc,rfl, ?_,fun j hj=> ?_⟩
  ·simp only [i5]
   rw [sN r _ _ (by simp)]
   simp only [List.getD_eq_getElem?_getD,Nat.add_zero]
   rw [List.getElem?_append_right (Nat.le_refl _)]
   simp [Y6]
  ·simp only [i5]
   rw [sN r _ _ (by simp;omega)]
   simp only [List.getD_eq_getElem?_getD]
   rw [List.getElem?_append_left (by omega)]
 |o0::r,acc,i+1,o,h=>by
  simp only [List.getElem?_cons_succ] at h
  simp only [i5]
  obtain ⟨acc',h1,h2,h3⟩:=yQ r (acc++[o0.after.toList.foldl (fun s e=>bif Region.binds .any e then s|||(1<<<e.on)|||acc.getD e.on 0 else s) 0]) i o h
  simp only [List.length_append,List.length_singleton] at h1 h2 h3
  exact ⟨acc',by omega,by rw [show acc.length+(i+1)=acc.length+1+i by omega];exact h2,fun j hj=>h3 j (by omega)⟩
theorem CS : ∀{ops:List Oper} {k:Nat},mG k ops=true-> ∀i o,ops[i]? =some o-> ∀e∈o.after,Region.binds .any e=true->e.on<k+i
 | [],_,_,i,o,h,_,_,_=>by simp at h
 |o0::r,k,h,0,o,ho,e,he,hb=>by
  simp only [mG,Bool.and_eq_true,List.all_eq_true] at h
  simp only [List.getElem?_cons_zero,Option.some.injEq] at ho
  subst ho
  have:=h.1 e (by simpa using he)
  rw [hb] at this
  simpa using this
 |o0::r,k,h,i+1,o,ho,e,he,hb=>by
  simp only [mG,Bool.and_eq_true] at h
  have:=CS h.2 i o (by simpa using ho) e he hb
  omega
theorem DC{ops:List Oper}(hedge:mG 0 ops=true){S:Nat->Bool}(hdown: ∀j o,ops[j]? =some o->S j=true-> ∀e∈o.after,Region.binds .any e=true->S e.on=true):
  ∀(j:Nat) (o:Oper) (a:Nat),ops[j]? =some o->(∀e∈o.after,Region.binds .any e=true->S e.on=true)->((i5 ops []).getD j 0).testBit a=true->S a=true:=by
 intro j
 induction j using Nat.strongRecOn with
 |_ j ih=>
  intro o a ho hS hbit
  obtain ⟨acc',h1,h2,h3⟩:=yQ ops [] j o ho
  simp only [List.length_nil,Nat.zero_add] at h1 h2 h3
  rw [h2] at hbit
  rcases FJ _ _ hbit with h4|⟨e,he,hb,h4⟩
  ·simp at h4
  ·have he':e∈o.after:=by simpa using he
   have hlt:=CS hedge j o ho e he' hb
   rw [Nat.zero_add] at hlt
   rcases h4 with h4|h4
   ·rw [<- h4];exact hS e he' hb
   ·rw [<- h3 e.on hlt] at h4
    have hSe:=hS e he' hb
    have hj:j<ops.length:=(List.getElem?_eq_some_iff.1 ho).1
    have hon:ops[e.on]? =some ops[e.on]:=List.getElem?_eq_getElem (by omega)
    exact ih e.on hlt ops[e.on] a hon (hdown e.on _ hon hSe) h4
theorem tL{a b:List Nat}:vN a b=true↔ ∃x,x∈a/\x∈b:=by
 unfold vN
 rw [List.any_eq_true]
 constructor
 ·rintro ⟨x,hx,h⟩;exact ⟨x,hx,jQ.1 h⟩
 ·rintro ⟨x,hx,h⟩;exact ⟨x,hx,jQ.2 h⟩
theorem B5 : ∀(k a x:Nat),x∈rM a k↔a<=x/\x<a+k
 |0,a,x=>by simp [rM]
 |k+1,a,x=>by
  rw [rM,List.mem_cons,B5 k (a+1) x];omega
theorem AY{s:cK}{x:Nat}(h:s.st.nxt<=s.n):x∈s.writes↔x∈s.wr\/(s.st.nxt<=x/\x<s.n):=by
 unfold cK.writes
 rw [List.mem_append,B5]
 constructor
 ·rintro (h1|h1)
  ·exact .inl h1
  ·right;omega
 ·rintro (h1|h1)
  ·exact .inl h1
  ·right;omega
theorem HS{s:cK}{t:Nat}:(pT s t).isSome↔s.o.dst=some t:=by
 unfold pT
 cases s.o.dst with
 |none=>simp
 |some d=>
  by_cases h:t=d
  ·simp [h]
  ·simp only [h,if_false,Option.isSome_none,Bool.false_eq_true,Option.some.injEq,false_iff]
   exact fun h'=>h h'.symm
theorem FQ : ∀{u:dB} {id:Nat},(C4 u id).isSome-> ∃o,(id,o)∈u
 | [],id,h=>by simp [C4] at h
 |(i,o)::u,id,h=>by
  simp only [C4] at h
  by_cases e:id=i
  ·subst e;exact ⟨o,by simp⟩
  ·rw [if_neg e] at h
   obtain ⟨o',ho'⟩:=FQ h
   exact ⟨o',by simp [ho']⟩
theorem EM : ∀(l:List Bool) (i:Nat),l[i]? =some false->((l.set i true).filter (!·)).length+1=(l.filter (!·)).length
 | [],i,h=>by simp at h
 |b::l,0,h=>by
  simp only [List.getElem?_cons_zero,Option.some.injEq] at h
  subst h;simp
 |b::l,i+1,h=>by
  have:=EM l i (by simpa using h)
  cases b<;>simp [this]
section
variable {ops:Array Oper} {Q:Exit->Act->World->Prop} {B:kG P} {l:List cK} {st0 stm:St}
def yR(st0:St)(l:List cK)(S:Nat->Bool)(id:Nat):Prop:=id<st0.nxt\/ ∃(k:Nat) (s:cK),l[k]? =some s/\S k=true/\s.st.nxt<=id/\id<s.n
theorem LX{s:cK}(hs:GN P ops.toList s){id:Nat}(h:(pS s id).isSome):id∈s.writes:=by
 obtain ⟨o,ho⟩:=FQ h
 exact (AY hs.nxt).2 (hs.keys id o ho)
theorem TJ (hc:uG P ops.toList st0 l stm) (hl:l.map (·.o)=ops.toList) (hfix:jG (i5 ops.toList []) (wM 0 l).reverse=true) (hedge:mG 0 ops.toList=true)
  (hdst: ∀s∈l,∀d,s.o.dst=some d->d<st0.nt) (hQ: ∀a' w',Now B stm a' w'->Q .normal a' w') (hB:B.n<=st0.nxt)
  (hlt0: ∀id sb,aI st0.store id=some sb->id<st0.nxt) {F:Fence} {n:Nat} (hF:Wd F):
  ∀(fuel:Nat) (listed:Array Bool) (a:Act) (w:World),listed.size=ops.size->(listed.toList.filter (!·)).length<=fuel->
   (∀j o,ops[j]? =some o->listed.getD j false=true-> ∀e∈o.after,Region.binds .any e=true->listed.getD e.on false=true)->
   (∃ρ T,fP B (cZ pT (fun k=>listed.getD k false) 0 l (get st0.tmps)) (cZ pS (fun k=>listed.getD k false) 0 l (aI st0.store))
    (yR st0 l (fun k=>listed.getD k false)) stm.dirty st0.nt a w ρ T)->
   wpAnyIn F n P .any ops Q fuel listed a w:=by
 have hlen:l.length=ops.size:=by have:=congrArg List.length hl;simpa using this
 have hops: ∀(i:Nat) (s:cK),l[i]? =some s->ops[i]? =some s.o:=by
  intro i s h
  have:(l.map (·.o))[i]? =some s.o:=by simp [h]
  rw [hl] at this
  rw [<- Array.getElem?_toList];exact this
 have hends:=u9 hc 0
 have hall: ∀(listed:Array Bool) (a:Act) (w:World),listed.size=ops.size->(∀k,k<ops.size->listed.getD k false=true)->
   (∃ρ T,fP B (cZ pT (fun k=>listed.getD k false) 0 l (get st0.tmps)) (cZ pS (fun k=>listed.getD k false) 0 l (aI st0.store))
    (yR st0 l (fun k=>listed.getD k false)) stm.dirty st0.nt a w ρ T)->Q .normal a w:=by
  rintro listed a w hsz hfull ⟨ρ,T,h⟩
  have hk: ∀(k:Nat) (s:cK),l[k]? =some s->listed.getD k false=true:=fun k s hs=>hfull k (by have:=(List.getElem?_eq_some_iff.1 hs).1;omega)
  have e1:cZ pT (fun k=>listed.getD k false) 0 l (get st0.tmps)=get stm.tmps:=by
   rw [hends.tm];funext t
   exact fZ _ _ _ _ (fun k s hs _=>by rw [Nat.zero_add];exact hk k s hs) rfl
  have e2:cZ pS (fun k=>listed.getD k false) 0 l (aI st0.store)=aI stm.store:=by
   rw [hends.sf];funext t
   exact fZ _ _ _ _ (fun k s hs _=>by rw [Nat.zero_add];exact hk k s hs) rfl
  have e3:yR st0 l (fun k=>listed.getD k false)=fun id=>id<stm.nxt:=by
   funext id
   apply propext
   rw [hends.nxt id]
   unfold yR
   constructor
   ·rintro (h|⟨k,s,h1,_,h2⟩)
    ·exact .inl h
    ·exact .inr ⟨k,s,h1,h2⟩
   ·rintro (h|⟨k,s,h1,h2⟩)
    ·exact .inl h
    ·exact .inr ⟨k,s,h1,hk k s h1,h2⟩
  rw [e1,e2,e3,<- hends.nt] at h
  exact hQ a w ⟨Nat.le_trans hB hends.le,ρ,T,h⟩
 have hready: ∀(listed:Array Bool),listed.size=ops.size->Region.ready .any ops listed=[]-> ∀k,k<ops.size->listed.getD k false=true:=by
  intro listed hsz hr k
  induction k using Nat.strongRecOn with
  |_ k ih=>
   intro hk
   cases hlk:listed.getD k false with
   |true=>rfl
   |false=>
    exfalso
    have hmem:k∈Region.ready .any ops listed:=by
     rw [mem_ready]
     refine ⟨?_,ops[k],Array.getElem?_eq_getElem hk,fun e he hb=> ?_⟩
     ·simp only [Array.getD_eq_getD_getElem?] at hlk|-
      rw [Array.getElem?_eq_getElem (by omega)] at hlk|-
      exact hlk
     ·have:=CS hedge k ops[k] (by rw [Array.getElem?_toList];exact Array.getElem?_eq_getElem hk) e he hb
      exact ih e.on (by omega) (by omega)
    rw [hr] at hmem;cases hmem
 intro fuel
 induction fuel with
 |zero=>
  intro listed a w hsz hcount hdown hinv
  have hfull: ∀k,k<ops.size->listed.getD k false=true:=by
   intro k hk
   cases hlk:listed.getD k false with
   |true=>rfl
   |false=>
    exfalso
    have hf:false∈listed.toList.filter (!·):=by
     rw [List.mem_filter]
     refine ⟨?_,rfl⟩
     have:listed[k]? =some false:=by
      simp only [Array.getD_eq_getD_getElem?] at hlk
      rw [Array.getElem?_eq_getElem (by omega)] at hlk|-
      simpa using hlk
     exact Array.mem_def.1 (Array.mem_of_getElem? this)
    have:=List.length_pos_of_mem hf
    omega
  refine ⟨?_,hall listed a w hsz hfull hinv⟩
  rw [List.eq_nil_iff_forall_not_mem]
  intro j hj
  rw [mem_ready] at hj
  obtain ⟨h1,o,ho,_⟩:=hj
  have hj':=(Array.getElem?_eq_some_iff.1 ho).1
  have h2:=hfull j hj'
  simp only [Array.getD_eq_getD_getElem?] at h1 h2
  rw [Array.getElem?_eq_getElem (by omega)] at h1 h2
  simp only [Option.getD_some] at h1 h2
  rw [h1] at h2;cases h2
 |succ fuel ih=>
  intro listed a w hsz hcount hdown hinv
  refine ⟨fun hr=>hall listed a w hsz (hready listed hsz hr) hinv,fun i hi=> ?_⟩
  rw [mem_ready] at hi
  obtain ⟨hi0,o,ho,hedges⟩:=hi
  have hilt:i<ops.size:=(Array.getElem?_eq_some_iff.1 ho).1
  have hil:i<l.length:=by omega
  obtain ⟨s,hs⟩: ∃s,l[i]? =some s:=⟨l[i],List.getElem?_eq_getElem hil⟩
  have hso:s.o=o:=by have:=hops i s hs;rw [ho] at this;cases this;rfl
  subst hso
  have hat:=AM hc 0 i s hs
  have hattm:=hat.tm
  have hatsf:=hat.sf
  simp only [Nat.zero_add] at hattm hatsf
  have hSi:listed.getD i false=false:=by
   simp only [Array.getD_eq_getD_getElem?] at hi0|-
   rw [Array.getElem?_eq_getElem (by omega)] at hi0|-
   exact hi0
  let S:Nat->Bool:=fun k=>listed.getD k false
  have hdownL: ∀j o,ops.toList[j]? =some o->S j=true-> ∀e∈o.after,Region.binds .any e=true->S e.on=true:=by
   intro j o hj;rw [Array.getElem?_toList] at hj;exact hdown j o hj
  have hclash: ∀(k:Nat) (s':cK),l[k]? =some s'->k≠i->(∀x y:Nat×cK,x=(k,s')\/y=(k,s')->x.1<y.1->(x=(i,s)\/y=(i,s))->qX (x.2.toRec x.1) (y.2.toRec y.1)=true)->S k=decide (k<i):=by
   intro k s' hk hne hcl
   rcases Nat.lt_or_gt_of_ne hne with hlt|hgt
   ·have hbit:=yB hfix hk hs hlt (hcl (k,s') (i,s) (.inl rfl) hlt (.inr rfl))
    have:=DC hedge hdownL i s.o k (by rw [Array.getElem?_toList];exact ho) hedges hbit
    rw [this];simp [hlt]
   ·have hbit:=yB hfix hs hk hgt (hcl (i,s) (k,s') (.inr rfl) hgt (.inl rfl))
    cases hSk:S k with
    |false=>simp;omega
    |true=>
     have hok:=hops k s' hk
     have:=DC hedge hdownL k s'.o i (by rw [Array.getElem?_toList];exact hok) (hdownL k s'.o (by rw [Array.getElem?_toList];exact hok) hSk) hbit
     have h2:S i=false:=hSi
     rw [this] at h2;cases h2
  have hSi':S i=decide (i<i):=by rw [show S i=false from hSi];simp
  have hT: ∀(t k:Nat) (s':cK),l[k]? =some s'->s'.o.dst=some t->(t∈s.looks\/s.o.dst=some t)->S k=decide (k<i):=by
   intro t k s' hk hd ht
   by_cases hne:k=i
   ·subst hne;exact hSi'
   ·refine hclash k s' hk hne fun x y hx hlt hy=> ?_
    have hcase:(x=(k,s')/\y=(i,s))\/(x=(i,s)/\y=(k,s')):=by
     rcases hx with rfl|rfl<;>rcases hy with hy|hy
     ·exact absurd (congrArg Prod.fst hy) hne
     ·exact .inl ⟨rfl,hy⟩
     ·exact .inr ⟨hy,rfl⟩
     ·exact absurd (congrArg Prod.fst hy) hne
    rcases hcase with ⟨rfl,rfl⟩|⟨rfl,rfl⟩
    ·rcases ht with ht|ht
     ·have:s.looks.any (Nat.beq t)=true:=jQ.2 ht
      simp [qX,cK.toRec,hd,this]
     ·simp [qX,cK.toRec,hd,ht]
    ·rcases ht with ht|ht
     ·have:s.looks.any (Nat.beq t)=true:=jQ.2 ht
      simp [qX,cK.toRec,hd,this]
     ·simp [qX,cK.toRec,hd,ht]
  have hS': ∀(id k:Nat) (s':cK),l[k]? =some s'->id∈s'.writes->(id∈s.rd\/id∈s.writes)->S k=decide (k<i):=by
   intro id k s' hk hd ht
   by_cases hne:k=i
   ·subst hne;exact hSi'
   ·refine hclash k s' hk hne fun x y hx hlt hy=> ?_
    have hcase:(x=(k,s')/\y=(i,s))\/(x=(i,s)/\y=(k,s')):=by
     rcases hx with rfl|rfl<;>rcases hy with hy|hy
     ·exact absurd (congrArg Prod.fst hy) hne
     ·exact .inl ⟨rfl,hy⟩
     ·exact .inr ⟨hy,rfl⟩
     ·exact absurd (congrArg Prod.fst hy) hne
    rcases hcase with ⟨rfl,rfl⟩|⟨rfl,rfl⟩
    ·rcases ht with ht|ht
     ·have:vN s'.writes s.rd=true:=tL.2 ⟨id,hd,ht⟩
      simp [qX,cK.toRec,this]
     ·have:vN s'.writes s.writes=true:=tL.2 ⟨id,hd,ht⟩
      simp [qX,cK.toRec,this]
    ·rcases ht with ht|ht
     ·have:vN s.rd s'.writes=true:=tL.2 ⟨id,ht,hd⟩
      simp [qX,cK.toRec,this]
     ·have:vN s.writes s'.writes=true:=tL.2 ⟨id,ht,hd⟩
      simp [qX,cK.toRec,this]
  have hkw: ∀(k:Nat) (s':cK) (id:Nat),l[k]? =some s'->(pS s' id).isSome->id∈s'.writes:=by
   intro k s' id hk hp
   exact LX (AM hc 0 k s' hk).ok hp
  obtain ⟨ρ,T,h⟩:=hinv
  let S1:Nat->Bool:=fun k=>(listed.setIfInBounds i true).getD k false
  have hS1i:S1 i=true:=by
   show (listed.setIfInBounds i true).getD i false=true
   rw [Array.getD_eq_getD_getElem?,Array.getElem?_setIfInBounds_self_of_lt (by omega)];rfl
  have hS1: ∀k,k≠i->S1 k=S k:=by
   intro k hk
   show (listed.setIfInBounds i true).getD k false=listed.getD k false
   rw [Array.getD_eq_getD_getElem?,Array.getD_eq_getD_getElem?,Array.getElem?_setIfInBounds_ne (Ne.symm hk)]
  have hlts:=hat.scope hlt0
  refine Q3 hat.ok ho h ?_ ?_ ?_ (Nat.le_trans hB hat.lo) (hdst s (List.mem_of_getElem? hs)) hlts (D':=stm.dirty) (A':=yR st0 l S1) (fun _ h=>h) hat.wr ?_ ?_ hF
  ·intro t ht
   rw [hattm]
   refine fZ _ _ _ _ (fun k s' hk hp=> ?_) rfl
   rw [Nat.zero_add]
   exact hT t k s' hk (HS.1 hp) (.inl ht)
  ·intro id hid
   rw [hatsf]
   refine fZ _ _ _ _ (fun k s' hk hp=> ?_) rfl
   rw [Nat.zero_add]
   exact hS' id k s' hk (hkw k s' id hk hp) (hid.imp (fun h=>h) fun h=>(AY hat.ok.nxt).2 (.inl h))
  ·intro id h1 h2 h3
   rcases h3 with h3|⟨k,s',hk,hSk,h4,h5⟩
   ·have:=hat.lo;omega
   ·have hatk:=AM hc 0 k s' hk
    rcases Nat.lt_trichotomy k i with h6|h6|h6
    ·have:=hatk.after i s hs h6;omega
    ·subst h6
     have:S k=false:=hSi
     have hSk':S k=true:=hSk
     rw [this] at hSk';cases hSk'
    ·have:=hat.after k s' hk h6;omega
  ·intro id
   unfold yR
   constructor
   ·rintro (h1|⟨k,s',hk,hSk,h4⟩)
    ·exact .inl (.inl h1)
    ·by_cases hki:k=i
     ·subst hki
      rw [hs] at hk;cases hk
      exact .inr h4
     ·exact .inl (.inr ⟨k,s',hk,(hS1 k hki).symm.trans hSk,h4⟩)
   ·rintro ((h1|⟨k,s',hk,hSk,h4⟩)|h1)
    ·exact .inl h1
    ·have hki:k≠i:=by
      rintro rfl
      have:S k=false:=hSi
      have hSk':S k=true:=hSk
      rw [this] at hSk';cases hSk'
     exact .inr ⟨k,s',hk,(hS1 k hki).trans hSk,h4⟩
    ·exact .inr ⟨i,s,hs,hS1i,h1⟩
  ·intro a' w' ρ' T' h1
   refine ih (listed.setIfInBounds i true) a' w' (by simpa using hsz) ?_ ?_ ⟨ρ',T', ?_⟩
   ·have h2:listed.toList[i]? =some false:=by
     rw [Array.getElem?_toList]
     rw [Array.getD_eq_getD_getElem?,Array.getElem?_eq_getElem (by omega)] at hSi
     rw [Array.getElem?_eq_getElem (by omega)]
     simpa using hSi
    have:=EM _ _ h2
    rw [Array.toList_setIfInBounds]
    omega
   ·intro j o' hj hSj e he hb
    by_cases hji:j=i
    ·subst hji
     rw [ho] at hj;cases hj
     have:=hedges e he hb
     by_cases heq:e.on=j
     ·rw [heq];exact hS1i
     ·have h9:=hS1 e.on heq
      show S1 e.on=true
      rw [h9];exact this
    ·have h8:S j=true:=by rw [<- hS1 j hji];exact hSj
     have:=hdown j o' hj h8 e he hb
     by_cases heq:e.on=i
     ·rw [heq];exact hS1i
     ·show S1 e.on=true
      rw [hS1 e.on heq];exact this
   ·have e1:cZ pT S1 0 l (get st0.tmps)=upd (cZ pT S 0 l (get st0.tmps)) s.o.dst s.v:=by
     rw [MU]
     funext t
     refine FA hs hS1 hS1i hSi fun hp k s' hk hlt hp'=> ?_
     have:=hT t k s' hk (HS.1 hp') (.inr (HS.1 hp))
     rw [this];simp;omega
    have e2:cZ pS S1 0 l (aI st0.store)=nE (cZ pS S 0 l (aI st0.store)) s.u:=by
     rw [G4]
     funext id
     refine FA hs hS1 hS1i hSi fun hp k s' hk hlt hp'=> ?_
     have:=hS' id k s' hk (hkw k s' id hk hp') (.inr (hkw i s id hs hp))
     rw [this];simp;omega
    rw [e1,e2]
    exact h1
end
end Go.Se
namespace Go.Se
variable {P:Program}
theorem xD(ts:List Nat): ∀(l:kB) (t:Nat),get (nK l ts) t=get l t\/get (nK l ts) t= .junk
 | [],t=> .inl rfl
 |(u,v)::l,t=>by
  simp only [nK]
  cases ts.any (Nat.beq u) with
  |true=>
   simp only [cond_true,get]
   cases Nat.beq u t with
   |true=>exact .inl rfl
   |false=>exact xD ts l t
  |false=>
   simp only [cond_false,get]
   cases Nat.beq u t with
   |true=>exact .inr rfl
   |false=>exact xD ts l t
theorem fP.drop {B:kG P} {tm:Nat->SV} {s:dB} {A:Nat->Prop} {Ds:List Nat} {nt:Nat} {a:Act} {w w':World} {ρ:aG} {T:Nat->Prop} {id l:Nat}
  (h:fP B tm (aI s) A Ds nt a w ρ T) (hid:(aI s id).isSome) (hl:ρ id=some l) (hp:Put l w w') (hD:B.w.heap.size<=l) (hT:T l):fP B tm (aI ((id,none)::s)) A Ds nt a w' ρ T:=by
 have hlook: ∀j,aI ((id,none)::s) j=if j=id then none else aI s j:=fun j=>by
  simp only [aI]
  by_cases hj:j=id
  ·subst hj;simp
  ·rw [if_neg hj,show Nat.beq id j=false by rw [Bool.eq_false_iff];intro e;exact hj (Nat.eq_of_beq_eq_true e).symm];rfl
 have hsome: ∀j,(aI ((id,none)::s) j).isSome->j≠id/\(aI s j).isSome:=fun j hj=>by
  rw [hlook] at hj
  by_cases e:j=id
  ·rw [if_pos e] at hj;cases hj
  ·rw [if_neg e] at hj;exact ⟨e,hj⟩
 have hnone: ∀j,aI s j=none->aI ((id,none)::s) j=none:=fun j hj=>by
  rw [hlook]
  by_cases e:j=id
  ·rw [if_pos e]
  ·rw [if_neg e];exact hj
 exact {
  defers:=by
   obtain ⟨M,h1,h2,h3⟩:=h.defers
   refine ⟨M,h1,h2,fun D hM=> ?_⟩
   obtain ⟨k1,k2,k3⟩:=h3 D hM
   exact ⟨k1,k2,by rw [hp.same D (by rintro rfl;exact k2 hT)];exact k3⟩
  size:=h.size
  tmps:=fun t=>mF hp _ _ (h.tmps t)
  store:=fun j sb hj=>by
   obtain ⟨k1,k2⟩:=hsome j (by rw [hj];rfl)
   rw [hlook,if_neg k1] at hj
   obtain ⟨h1,b,h2,h3,h4⟩:=h.store j sb hj
   exact ⟨h1,b,h2,h3,B9 hp (by rintro rfl;exact k1 (h.inj j id b k2 hid h2 hl)) h4⟩
  names:=fun j b hj=>by rw [hp.size];exact h.names j b hj
  inj:=fun i j b hi hj=>h.inj i j b (hsome i hi).2 (hsome j hj).2
  base:=h.base
  full:=h.full
  grow:=h.grow.trans (aX.turn hp) fun b hb e=>by omega
  old:=h.old
  tback:=h.tback
  tkeep:=fun b hb hT=>(h.tkeep b hb hT).imp (fun x=>x) fun ⟨q,q1,q2,q3,q4⟩=>⟨q,q1,q2,hnone q q3,q4⟩
  fresh:=fun j b h1 h2 h3=>(h.fresh j b (hsome j h1).2 h2 h3).imp (fun x=>x) fun ⟨q,q1,q2,q3,q4⟩=>⟨q,q1,q2,hnone q q3,q4⟩
  inv:=fun g v hg=>⟨(h.inv g v hg).1,hp.cell (h.inv g v hg).2⟩}
def WI :Pd->Exit
 | .ready=> .normal
 | .busy=> .normal
 | .left .normal=> .normal
 | .left (.exit id)=> .exit id
 | .left .ret=> .ret
def BS(w:World)(fn:FuncId)(a:Act)(ps:Array Tmp)(assign body:Code):World:=
 (w.alloc (.deferred (some []))).alloc (.loop {state:= .ready,pending:=none,fn,tmps:=a.tmps,params:=ps,assign,body,defers:=w.heap.size})
theorem CB{w:World}{fn:FuncId}{a:Act}{ps:Array Tmp}{assign body:Code}:(BS w fn a ps assign body).heap.size=w.heap.size+2:=by
 simp [BS,World.size_alloc]
theorem FH{w:World}{fn:FuncId}{a:Act}{ps:Array Tmp}{assign body:Code}{b:Nat}(h:b<w.heap.size):(BS w fn a ps assign body).heap[b]? =w.heap[b]? :=by
 show ((w.heap.push _).push _)[b]? =_
 rw [Array.getElem?_push_lt (by simp;omega),Array.getElem_push_lt (by omega),Array.getElem?_eq_getElem h]
theorem UI{w:World}{fn:FuncId}{a:Act}{ps:Array Tmp}{assign body:Code}:(BS w fn a ps assign body).heap[w.heap.size]? =some (.deferred (some [])):=by
 show ((w.heap.push _).push _)[w.heap.size]? =_
 rw [Array.getElem?_push_lt (by simp),Array.getElem_push_eq]
theorem VL{w:World}{fn:FuncId}{a:Act}{ps:Array Tmp}{assign body:Code}:(BS w fn a ps assign body).heap[w.heap.size+1]? =some (.loop {state:= .ready,pending:=none,fn,tmps:=a.tmps,params:=ps,assign,body,defers:=w.heap.size}):=by
 show ((w.heap.push _).push _)[w.heap.size+1]? =_
 have:(w.heap.push (Obj.deferred (some []))).size=w.heap.size+1:=by simp
 rw [<- this,Array.getElem?_push_size]
theorem BZ{w:World}{fn:FuncId}{a:Act}{ps:Array Tmp}{assign body:Code}(T:Nat->Prop):aX T w (BS w fn a ps assign body) where
 size:=by rw [CB];omega
 same:=fun b hb _=>FH hb
 shape:=fun b vs e f hb=>⟨vs,f,by rw [FH (Array.getElem?_eq_some_iff.1 hb).1];exact hb,rfl⟩
 os:=rfl
 output:=rfl
 tape:=rfl
theorem aAL {env:Env} (he:oG P env) {g:Operand} {ps:Array Tmp} {assign body:Code} {st:St} {k:FuncId} {first cap:List SV} {ts:List Nat} (hg:eval st.tmps g= .fn (.func k) first cap)
  (hft:HF env k=false) {K:KV}
  (h:EP env {st with store:=(st.nxt,some (.loop (nK st.tmps ts) st.nt ps.toList assign body .ready))::st.store,nxt:=st.nxt+1} k (first++[.yld st.nxt]++cap) K):
  ∃v u n rd wr,K v u n rd wr/\ ∀(F:Fence) (m:Nat),Wd F->F.round=none-> ∀(B:kG P) (a:Act) (w:World),Now B st a w-> ∀(tm':kB) (nt':Nat) (ps':List Nat) (as' bd':Code) (pend:Pd),
   aI (u++(st.nxt,some (.loop (nK st.tmps ts) st.nt ps.toList assign body .ready))::st.store) st.nxt=some (.loop tm' nt' ps' as' bd' pend)->pend≠ .busy-> ∀Q:Exit->Act->World->Prop,
   (∀a' w',Now B ⟨st.tmps,(st.nxt,none)::(u++(st.nxt,some (.loop (nK st.tmps ts) st.nt ps.toList assign body .ready))::st.store),n,iS st.dirty wr,st.nt⟩ a' w'->Q (WI pend) a' w')->
   (Code.rangeFunc g ps assign body).wpIn F m P Q a w:=by
 generalize hs1:({st with store:=(st.nxt,some (.loop (nK st.tmps ts) st.nt ps.toList assign body .ready))::st.store,nxt:=st.nxt+1}:St)=s1 at h
 have e_nxt:s1.nxt=st.nxt+1:=by rw [<- hs1]
 have e_store:s1.store=(st.nxt,some (.loop (nK st.tmps ts) st.nt ps.toList assign body .ready))::st.store:=by rw [<- hs1]
 unfold EP at h
 generalize hxs:first++[.yld st.nxt]++cap=xs at h
 simp only at h
 generalize hF:gB s1.store 200 (ids.idsL xs) []=R at h
 obtain ⟨v,σ',d,hK,hok⟩:=he.callee _ _ _ _ h
 obtain ⟨q1,q2,q3,q4,q5⟩:=AC (P:=P) (st:=s1) (v:=v) (σ':=σ') (d:=d) hF
 refine ⟨_,_,_,_,_,hK,fun F m hFw hro B a w hn tm' nt' ps' as' bd' pend hlk hpb Q hQ=> ?_⟩
 obtain ⟨hB,ρ,T,hh⟩:=hn
 refine wpIn_rangeFunc fun fnid _=> ?_
 have hgv: ∃a1 a2,a.eval g= .func (.func k) a1 a2/\aQ ρ T w first a1.toList/\aQ ρ T w cap a2.toList:=by
  have:rel ρ T w (eval st.tmps g) (a.eval g):=by
   refine LD fun t ht=> ?_
   subst ht
   exact hh.tmps t
  rw [hg] at this
  exact this
 obtain ⟨a1,a2,hge,hr1,hr2⟩:=hgv
 let l:=w.heap.size+1
 let w1:=BS w fnid a ps assign body
 let ρ1:aG:=fun id=>if id=st.nxt then some l else ρ id
 let T1:Nat->Prop:=fun c=>(T c/\c<w.heap.size)\/c=l
 have hnone:ρ st.nxt=none:=by
  cases hρ:ρ st.nxt with
  |none=>rfl
  |some b=>exact absurd (hh.names _ _ hρ).1 (Nat.lt_irrefl _)
 have hρ1: ∀id b,ρ id=some b->ρ1 id=some b:=fun id b hid=>by
  show (if _ then _ else _)=_
  rw [if_neg];·exact hid
  rintro rfl;rw [hnone] at hid;cases hid
 have hG:aX T w w1:=BZ T
 have hT1: ∀b,b<w.heap.size->T1 b->T b:=fun b hb ht=>by
  rcases ht with ht|ht
  ·exact ht.1
  ·have:b=w.heap.size+1:=ht;omega
 have hmono: ∀(x:SV) (y:Value),rel ρ T w x y->rel ρ1 T1 w1 x y:=fU hρ1 hT1 hG
 have hdone:eW ρ T w st.nxt (st.nxt+1) (.tup []) [(st.nxt,some (.loop (nK st.tmps ts) st.nt ps.toList assign body .ready))] [] ρ1 T1 w1 (.tuple #[]):={
  names:=hρ1
  only:=fun id b hid=>by
   by_cases e:id=st.nxt
   ·exact .inr (by omega)
   ·exact .inl (by have:(if id=st.nxt then some l else ρ id)=some b:=hid;rw [if_neg e] at this;exact this)
  val:=⟨#[],rfl,rfl⟩
  turned:=fun id sb hid=>by
   simp only [List.mem_singleton,Prod.mk.injEq,Option.some.injEq] at hid
   obtain ⟨rfl,rfl⟩:=hid
   refine ⟨l,if_pos rfl,.inr rfl,_,VL,⟨rfl,rfl⟩,rfl,rfl,rfl,hh.size,fun t=> ?_⟩
   rcases xD ts st.tmps t with e|e
   ·rw [e];exact hmono _ _ (hh.tmps t)
   ·rw [e];exact trivial
  keys:=fun id o hid=>by
   simp only [List.mem_singleton,Prod.mk.injEq] at hid
   exact .inr (by omega)
  cover:=fun id hid=>by cases hid
  fresh:=fun id b h1 h2 h3=>by
   have e:id=st.nxt:=by omega
   subst e
   have:(some l:Option Nat)=some b:=by rw [<- h3];exact (if_pos rfl).symm
   cases this
   exact .inl (by show w.heap.size<=w.heap.size+1;omega)
  inj:=fun i j b h1 h2 h3 h4 _ _=>by omega
  grow:=(BZ (fun _=>False)).mono fun _ _ h=>h.elim
  tback:=hT1
  below:=fun id b h1 h2 h3=>by
   have e:id=st.nxt:=by omega
   subst e
   have:(some l:Option Nat)=some b:=by rw [<- h3];exact (if_pos rfl).symm
   cases this
   rw [CB];show w.heap.size+1<_;omega
  tkeep:=fun b hb hT=> .inl (.inl ⟨hT,hb⟩)}
 have hA:fP B (get st.tmps) (aI s1.store) (fun id=>id<s1.nxt) st.dirty st.nt a w1 ρ1 T1:=by
  have:=hh.done (dst:=none) (D':=st.dirty) (A':=fun id=>id<s1.nxt) hdone (fun _ h=>by cases h) hB (fun id h1 _ h2=>by omega) (fun _ h=>by cases h)
   (fun id x y hx hy=>by
    simp only [List.mem_singleton,Prod.mk.injEq] at hx hy
    rw [hx.2,hy.2]) (fun _ h=>h) (fun _ h=>by cases h) (fun id=>by rw [e_nxt];show id<st.nxt+1↔id<st.nxt\/(st.nxt<=id/\id<st.nxt+1);omega)
  have e1:nE (aI st.store) [(st.nxt,some (.loop (nK st.tmps ts) st.nt ps.toList assign body .ready))]=aI s1.store:=by
   funext id
   rw [e_store,<- xN];rfl
  rw [e1] at this
  exact this
 let a':Act:={a with defers:={target:= .collected w.heap.size,args:= #[]}::a.defers}
 have hA':fP B (get st.tmps) (aI s1.store) (fun id=>id<s1.nxt) st.dirty st.nt a' w1 ρ1 T1:={
  hA with
  defers:=by
   obtain ⟨M,h1,h2,h3⟩:=hA.defers
   have hlt: ∀D∈M,D<w.heap.size:=fun D hD=>by
    obtain ⟨M0,g1,g2,g3⟩:=hh.defers
    have hM:M=M0:=by
     have:=h1.symm.trans g1
     have hinj:=congrArg (List.map fun d:Deferred=>match d.target with| .collected D=>D|_=>0) this
     simpa [Function.comp_def] using hinj
    subst hM
    obtain ⟨_,_,k3⟩:=g3 D hD
    exact (Array.getElem?_eq_some_iff.1 k3).1
   refine ⟨w.heap.size::M,by show _::a.defers=_;rw [h1];rfl,List.nodup_cons.2 ⟨fun hm=>Nat.lt_irrefl _ (hlt _ hm),h2⟩,fun D hD=> ?_⟩
   rcases List.mem_cons.1 hD with rfl|hD
   ·refine ⟨hh.grow.size,fun ht=> ?_,UI⟩
    rcases ht with ht|ht
    ·exact Nat.lt_irrefl _ ht.2
    ·have:w.heap.size=w.heap.size+1:=ht;omega
   ·exact h3 D hD
  size:=hA.size}
 have hlow:Low P ρ1 T1 w1:=⟨fun id b hid=>(hA.names id b hid).2,hA.inv⟩
 obtain ⟨p1,p2,p3,p4,p5⟩:=q5 ρ1 T1 w1
  (fun id hid=>by
   obtain ⟨sb,hsb⟩:=q2 id hid
   obtain ⟨_,b,h2,h3,h4⟩:=hA.store id sb hsb
   exact ⟨sb,b,hsb,h2,h3,h4⟩)
  (fun i j b hi hj h1 h2=>by
   obtain ⟨si,hsi⟩:=q2 i hi
   obtain ⟨sj,hsj⟩:=q2 j hj
   exact hA.inj i j b (by rw [hsi];rfl) (by rw [hsj];rfl) h1 h2)
  hlow
  (fun id h1 _=>by
   cases hρ:ρ1 id with
   |none=>rfl
   |some b=>exact absurd (hA.names id b hρ).1 (by omega))
 have hargs:aQ ρ1 T1 w1 xs (a1++ #[Value.func (.yield l) #[] #[]]++a2).toList:=by
  rw [<- hxs,Array.toList_append,Array.toList_append]
  have lmono: ∀(x:List SV) (y:List Value),aQ ρ T w x y->aQ ρ1 T1 w1 x y:=aS hρ1 hT1 hG
  refine eN (eN (lmono _ _ hr1) ?_) (lmono _ _ hr2)
  exact ⟨_,[],rfl,⟨l,if_pos rfl,rfl⟩,rfl⟩
 have hruns:=hok (fun p=>(R[p]?).bind ρ1) T1 w1 (a1++ #[Value.func (.yield l) #[] #[]]++a2) (iT p1 _ _ hargs) p2 p3 p4
 unfold HF at hft
 cases hfk:env.ft k with
 |none=>rw [hfk] at hft;cases hft
 |some fn0=>
 rw [hfk] at hft
 obtain ⟨hfn0,hname0⟩:=he.ft k fn0 hfk
 have hcf: ∀vals:Array Value,(callFunc k vals).run P w1= .ok (.enter k vals) w1:=fun vals=>by
  simp only [callFunc,Sem.run_bind,run_program,Result.andThen_ok,hfn0,hname0,Bool.false_eq_true,if_false,show fn0.body.isNone=false from hft,Sem.run_pure]
 have hcalls:Calls P k (a1++ #[Value.func (.yield l) #[] #[]]++a2) w1 fun e w'=> ∃x,e= .returned x/\ ∃ρ' T',iH (fun p=>(R[p]?).bind ρ1) T1 w1 (R.map fun i=>(aI s1.store i).map (jO fun i=>idx R i 0)) v σ' d ρ' T' w' x:=by
  rcases hruns with ⟨fn,hfn,hbody,hname,hc⟩|⟨x,w',hrun,hR⟩
  ·exact hc
  ·rw [hcf] at hrun;cases hrun
 refine ⟨l,[{target:= .collected w.heap.size,args:= #[]}],w1,{target:= .fn (.func k) a2,args:=a1++ #[Value.func (.yield l) #[] #[]]},w1,k,a1++ #[Value.func (.yield l) #[] #[]]++a2,w1, ?_, ?_,fun f' _=>hFw.fn f', ?_,fun hd=>(by rw [hFw.depth] at hd;cases hd),hFw.calls (hcalls.mono fun e w3 he3=> ?_)⟩
 ·rw [hro];exact run_enterLoop_outer fnid a.tmps ps assign body
 ·have hm: #[Operand.const (Value.func (.yield l) #[] #[])].map a.eval= #[Value.func (.yield l) #[] #[]]:=by simp [Act.eval]
  simp only [resolve,hge,Deferred.ofValue,hm];rfl
 ·exact hcf _
 obtain ⟨x,rfl,hx⟩:=he3
 obtain ⟨ρ2,T2,hd2⟩:=p5 x w3 hx
 have hB1:B.n<=s1.nxt:=by omega
 have hH:=hA'.done (dst:=none) (D':=iS st.dirty (d.filterMap fun p=>R[p]?)) (A':=fun id=>id<s1.nxt+(σ'.length - R.length)) hd2 (fun _ h=>by cases h) hB1 (fun id h1 _ h2=>by omega)
  (fun id hid=>by obtain ⟨sb,hsb⟩:=q2 id (.inr hid);rw [hsb];rfl) (q3 fun id sb hsb=>(hA.store id sb hsb).1)
  (fun p hp=>(eD _ _ _).2 (.inl hp)) (fun p hp=>(eD _ _ _).2 (.inr hp)) (fun id=>by show id<s1.nxt+_↔id<s1.nxt\/(s1.nxt<=id/\id<s1.nxt+_);omega)
 have e2:nE (aI s1.store) (dI (fX R s1.nxt) R s1.nxt d 0 σ')=aI (dI (fX R s1.nxt) R s1.nxt d 0 σ'++s1.store):=by
  funext id;rw [xN]
 rw [e2] at hH
 rw [<- e_store] at hlk hQ
 have hl2:ρ2 st.nxt=some l:=hd2.names _ _ (if_pos rfl)
 obtain ⟨_,b,hb1,hb2,r,hb3,hb4,_⟩:=hH.store st.nxt _ hlk
 rw [hl2] at hb1;cases hb1
 have hbusy:r.state≠ .busy:=fun e=>by
  rw [e] at hb4
  rcases pend with _|_|(_|_|_)
  ·exact absurd hb4.1 (by decide)
  ·exact hpb rfl
  ·exact hb4
  ·exact absurd hb4.1 (by decide)
  ·exact absurd hb4.1 (by decide)
 refine ⟨r.pending,_,run_endLoop hb3 hbusy, ?_⟩
 have hput:=nA (o':= .loop {r with state:= .exhausted}) hb3 (fun _ _ _ e=>by cases e)
 have hN:=hH.drop (by rw [hlk];rfl) hl2 hput (Nat.le_trans hh.grow.size (Nat.le_succ _)) hb2
 have hNow:Now B ⟨st.tmps,(st.nxt,none)::(dI (fX R s1.nxt) R s1.nxt d 0 σ'++s1.store),s1.nxt+(σ'.length - R.length),iS st.dirty (d.filterMap fun p=>R[p]?),st.nt⟩ a' (w3.putObj l (.loop {r with state:= .exhausted})):=
  ⟨Nat.le_trans hB1 (Nat.le_add_right _ _),ρ2,T2,hN⟩
 have hfin:=hQ a' _ hNow
 rcases pend with _|_|(_|id|_)
 ·have hp:r.pending=none:=hb4.2
  rw [hp] at hfin|-;exact hfin
 ·exact absurd rfl hpb
 ·exact hb4.elim
 ·have hp:r.pending=some (.exit id):=hb4.2
  rw [hp] at hfin|-;exact wpIn_exit hfin
 ·have hp:r.pending=some .ret:=hb4.2
  rw [hp] at hfin|-;exact wpIn_ret hfin
theorem fP.turnRec {B:kG P} {tm:Nat->SV} {s:dB} {A:Nat->Prop} {Ds Ds':List Nat} {nt:Nat} {a:Act} {w w':World} {ρ:aG} {T:Nat->Prop} {id l:Nat} {sb:SB}
  (h:fP B tm (aI s) A Ds nt a w ρ T) (hid:(aI s id).isSome) (hl:ρ id=some l) (hp:Put l w w') (hT:T l) (hsb:eF ρ T w' sb l) (hn:id<B.n) (hD: ∀p,p∈Ds->p∈Ds') (hDi:id∈Ds'):
  fP B tm (aI ((id,some sb)::s)) A Ds' nt a w' ρ T:=by
 have hlook: ∀j,aI ((id,some sb)::s) j=if j=id then some sb else aI s j:=fun j=>by
  simp only [aI]
  by_cases hj:j=id
  ·subst hj;simp
  ·rw [if_neg hj,show Nat.beq id j=false by rw [Bool.eq_false_iff];intro e;exact hj (Nat.eq_of_beq_eq_true e).symm];rfl
 have hsome: ∀j,(aI ((id,some sb)::s) j).isSome->(aI s j).isSome:=fun j hj=>by
  rw [hlook] at hj
  by_cases e:j=id
  ·rw [e];exact hid
  ·rw [if_neg e] at hj;exact hj
 have hnone: ∀j,aI s j=none->aI ((id,some sb)::s) j=none:=fun j hj=>by
  rw [hlook]
  by_cases e:j=id
  ·subst e;rw [hj] at hid;cases hid
  ·rw [if_neg e];exact hj
 have hbase:B.ρ id=some l:=by
  obtain ⟨b,hb⟩:=h.full id hn
  have:=(h.old id b hb).2
  rw [hl] at this;cases this
  exact hb
 exact {
  defers:=by
   obtain ⟨M,h1,h2,h3⟩:=h.defers
   refine ⟨M,h1,h2,fun D hM=> ?_⟩
   obtain ⟨k1,k2,k3⟩:=h3 D hM
   exact ⟨k1,k2,by rw [hp.same D (by rintro rfl;exact k2 hT)];exact k3⟩
  size:=h.size
  tmps:=fun t=>mF hp _ _ (h.tmps t)
  store:=fun j sb' hj=>by
   rw [hlook] at hj
   by_cases e:j=id
   ·rw [if_pos e] at hj
    cases hj
    subst e
    obtain ⟨sb0,hsb0⟩:=Option.isSome_iff_exists.1 hid
    exact ⟨(h.store _ sb0 hsb0).1,l,hl,hT,hsb⟩
   ·rw [if_neg e] at hj
    obtain ⟨h1,b,h2,h3,h4⟩:=h.store j sb' hj
    exact ⟨h1,b,h2,h3,B9 hp (by rintro rfl;exact e (h.inj j id b (by rw [hj];rfl) hid h2 hl)) h4⟩
  names:=fun j b hj=>by rw [hp.size];exact h.names j b hj
  inj:=fun i j b hi hj=>h.inj i j b (hsome i hi) (hsome j hj)
  base:=h.base
  full:=h.full
  grow:=(h.grow.mono fun b _ ⟨p,h1,h2⟩=>⟨p,hD p h1,h2⟩).trans (aX.turn hp) fun b _ e=>⟨id,hDi,hn,by rw [e];exact hbase⟩
  old:=h.old
  tback:=h.tback
  tkeep:=fun b hb hT=>(h.tkeep b hb hT).imp (fun x=>x) fun ⟨q,q1,q2,q3,q4⟩=>⟨q,hD q q1,q2,hnone q q3,q4⟩
  fresh:=fun j b h1 h2 h3=>(h.fresh j b (hsome j h1) h2 h3).imp (fun x=>x) fun ⟨q,q1,q2,q3,q4⟩=>⟨q,hD q q1,q2,hnone q q3,q4⟩
  inv:=fun g v hg=>⟨(h.inv g v hg).1,hp.cell (h.inv g v hg).2⟩}
def IS :List Nat->List SV->(Nat->SV)->Nat->SV
 |p::ps,x::xs,f=>IS ps xs fun t=>if t=p then x else f t
 |_,_,f=>f
theorem RY : ∀(ps:List Nat) (xs:List SV) (f g:Nat->SV) (t:Nat),f t=g t->IS ps xs f t=IS ps xs g t
 | [],_,_,_,_,h=>h
 |_::_,[],_,_,_,h=>h
 |p::ps,x::xs,f,g,t,h=>RY ps xs _ _ t (by by_cases e:t=p;rw [if_pos e,if_pos e];rw [if_neg e,if_neg e];exact h)
theorem KY : ∀(ps:List Nat) (xs:List SV) (f:Nat->SV) (t:Nat),t∉ps->IS ps xs f t=f t
 | [],_,_,_,_=>rfl
 |_::_,[],_,_,_=>rfl
 |p::ps,x::xs,f,t,h=>by
  show IS ps xs _ t=_
  rw [KY ps xs _ t (fun hm=>h (List.mem_cons_of_mem _ hm)),if_neg (fun e=>h (by rw [e];exact List.mem_cons_self ..))]
theorem I0{nt:Nat}: ∀(ps:List Nat) (xs:List SV) (tm:kB) (t:Nat),pL nt ps=true->get (Y5 ps xs++tm) t=IS ps xs (get tm) t
 | [],_,_,_,_=>rfl
 |_::_,[],_,_,_=>rfl
 |p::ps,x::xs,tm,t,h=>by
  simp only [pL,Bool.and_eq_true,Bool.not_eq_true'] at h
  obtain ⟨_,h2,h3⟩:=h
  show get ((p,x)::(Y5 ps xs++tm)) t=IS ps xs _ t
  simp only [get]
  cases hb:Nat.beq p t with
  |true=>
   obtain rfl:=Nat.eq_of_beq_eq_true hb
   have hm:p∉ps:=fun hm=>by rw [jQ.2 hm] at h2;cases h2
   rw [KY ps xs _ p hm,if_pos rfl];rfl
  |false=>
   have hne:t≠p:=by rintro rfl;rw [Nat.beq_refl] at hb;cases hb
   simp only [cond_false]
   rw [I0 ps xs tm t h3]
   exact RY ps xs _ _ t (by rw [if_neg hne])
theorem Q6{ρ:aG}{T:Nat->Prop}{w:World}{nt:Nat}: ∀(ps:List Nat) (xs:List SV) (vals:List Value) (f:Nat->SV) (base:Array Value),pL nt ps=true->base.size=nt->ps.length=xs.length->aQ ρ T w xs vals->
  (∀t,rel ρ T w (f t) (base.getD t undef))->(((ps.zip vals).foldl (fun tmps (t,a)=>tmps.setIfInBounds t a) base).size=nt/\ ∀t,rel ρ T w (IS ps xs f t) (((ps.zip vals).foldl (fun tmps (t,a)=>tmps.setIfInBounds t a) base).getD t undef))
 | [],xs,vals,f,base,_,hs,hl,hv,hb=>by
  cases xs with
  |nil=>exact ⟨hs,hb⟩
  |cons _ _=>cases hl
 |p::ps,[],_,_,_,_,_,hl,_,_=>by cases hl
 |p::ps,x::xs,vals,f,base,hg,hs,hl,hv,hb=>by
  obtain ⟨v,r,rfl,h1,h2⟩:=hv
  simp only [pL,Bool.and_eq_true,Bool.not_eq_true'] at hg
  obtain ⟨g1,_,g3⟩:=hg
  have g1:p<nt:=by simpa using g1
  refine Q6 ps xs r (fun t=>if t=p then x else f t) (base.setIfInBounds p v) g3 (by simpa using hs) (by simpa using hl) h2 fun t=> ?_
  simp only [Array.getD_eq_getD_getElem?]
  by_cases e:t=p
  ·subst e
   rw [if_pos rfl,Array.getElem?_setIfInBounds_self_of_lt (by omega)]
   exact h1
  ·rw [if_neg e,Array.getElem?_setIfInBounds_ne (Ne.symm e)]
   have:=hb t
   rwa [Array.getD_eq_getD_getElem?] at this
end Go.Se
namespace Go.Se
variable {P:Program}
theorem UB{B:kG P}{st:St}{a:Act}{w:World}(h:Now B st a w):Now B st a {w with drawn:=w.drawn+1}:=by
 obtain ⟨hB,ρ,T,h⟩:=h
 have hG:aX (fun _=>False) w {w with drawn:=w.drawn+1}:=⟨Nat.le_refl _,fun _ _ _=>rfl,fun b vs e f hb=>⟨vs,f,hb,rfl⟩,rfl,rfl,rfl⟩
 have hGT:aX T w {w with drawn:=w.drawn+1}:=hG.mono fun _ _ h=>h.elim
 refine ⟨hB,ρ,T,{h with
  tmps:=fun t=>fU (fun _ _ h=>h) (fun _ _ h=>h) hGT _ _ (h.tmps t)
  store:=fun id sb hid=>by
   obtain ⟨h1,b,h2,h3,h4⟩:=h.store id sb hid
   exact ⟨h1,b,h2,h3,pC (fun _ _ h=>h) (fun _ _ h=>h) hGT rfl h4⟩
  names:=h.names
  grow:=h.grow.trans hG fun _ _ h=>h.elim}⟩
theorem aEz{B:kG P}{st:St}{a:Act}{w:World}(h:Now B st a w): ∀id sb,aI st.store id=some sb->id<st.nxt:=by
 obtain ⟨_,ρ,T,h⟩:=h
 exact fun id sb hid=>(h.store id sb hid).1
theorem KU{B:kG P}{st st':St}{a:Act}{w:World}(hs:HR st st')(h:Now B st a w):Now B st' a w:=by
 obtain ⟨hB,ρ,T,h⟩:=h
 have ht:get st.tmps=get st'.tmps:=funext hs.tmps
 rw [ht,hs.store,hs.nxt,hs.dirty,hs.nt] at h
 exact ⟨by rw [<- hs.nxt];exact hB,ρ,T,h⟩
theorem yK{nt:Nat}{l:List cK}{ops:List Oper}(hl:l.map (·.o)=ops)(h:CH nt ops=true): ∀s∈l,∀d,s.o.dst=some d->d<nt:=by
 intro s hs d hd
 unfold CH at h
 rw [List.all_eq_true] at h
 have:=h s.o (by rw [<- hl];exact List.mem_map.2 ⟨s,hs,rfl⟩)
 rw [hd] at this
 simpa using this
theorem ER {env:Env} (he:oG P env) (hmix:P.follows .mixedOrders=true) {id:Nat} {ops:Array Oper} {draw:Bool} {st:St} {K:St->Prop}
  (hdst:CH st.nt ops.toList=true)
  (h:bif draw then (bif mG 0 ops.toList then kU env ops.toList ops.toList 0 st [] fun s tr=>If (jG (i5 ops.toList []) tr) (K s) else False)
   else kU env ops.toList ops.toList 0 st [] fun s _=>K s):
  ∃st',K st'/\ ∀(B:kG P) (a:Act) (w:World),Now B st a w-> ∀(F:Fence) (n:Nat),Wd F-> ∀Q:Exit->Act->World->Prop,(∀a' w',Now B st' a' w'->Q .normal a' w')->(Code.region id ops draw).wpIn F n P Q a w:=by
 cases draw with
 |false=>
  simp only [cond_false] at h
  obtain ⟨l,st',hc,hl,hK⟩:=kZ he _ _ _ _ h
  refine ⟨st',hK,fun B a w hn F n hF Q hQ=> ?_⟩
  refine wpIn_region ?_
  have:=NN (n:=n) hF hc 0 a w (fun j=>by rw [hl,Nat.zero_add,Array.getElem?_toList]) hn (yK hl hdst) hQ
  have hlen:l.length=ops.size:=by have:=congrArg List.length hl;simpa using this
  rw [hlen,<- List.range_eq_range'] at this
  exact this
 |true=>
  simp only [cond_true] at h
  cases hedge:mG 0 ops.toList with
  |false=>rw [hedge] at h;exact h.elim
  |true=>
   rw [hedge] at h
   simp only [cond_true] at h
   obtain ⟨l,st',hc,hl,hK⟩:=kZ he _ _ _ _ h
   obtain ⟨hfix,hK⟩:=If.elim hK
   rw [List.append_nil] at hfix
   have hlen:l.length=ops.size:=by have:=congrArg List.length hl;simpa using this
   refine ⟨st',hK,fun B a w hn F n hF Q hQ=> ?_⟩
   refine wpIn_region_any hmix ?_
   have hn':=UB hn
   obtain ⟨hB,ρ,T,hh⟩:=hn'
   refine TJ hc hl hfix hedge (yK hl hdst) hQ hB (aEz hn) hF ops.size _ a _ (by simp) ?_ ?_ ⟨ρ,T, ?_⟩
   ·simp
   ·intro j o _ hj
    exfalso
    rw [Array.getD_eq_getD_getElem?] at hj
    by_cases hlt:j<ops.size
    ·simp [hlt] at hj
    ·simp [hlt] at hj
   ·have hno: ∀k,(Array.replicate ops.size false).getD k false=false:=by
     intro k
     rw [Array.getD_eq_getD_getElem?]
     by_cases hlt:k<ops.size<;>simp [hlt]
    have hends:=u9 hc 0
    rw [mT _ _ _ _ _ (fun k _=>hno k),mT _ _ _ _ _ (fun k _=>hno k)]
    have hg:yR st l (fun k=>(Array.replicate ops.size false).getD k false)=fun id=>id<st.nxt:=by
     funext id
     apply propext
     unfold yR
     constructor
     ·rintro (h|⟨k,s,_,h2,_⟩)
      ·exact h
      ·simp only [hno] at h2;cases h2
     ·exact fun h=> .inl h
    rw [hg]
    exact {hh with
     grow:=hh.grow.mono fun b _ ⟨p,h1,h2⟩=>⟨p,hends.dirty p h1,h2⟩
     tkeep:=fun b hb hT=>(hh.tkeep b hb hT).imp (fun h=>h) fun ⟨q,h1,h2⟩=>⟨q,hends.dirty q h1,h2⟩
     fresh:=fun id b h1 h2 h3=>(hh.fresh id b h1 h2 h3).imp (fun h=>h) fun ⟨q,h4,h5⟩=>⟨q,hends.dirty q h4,h5⟩}
def UT :Ex->Exit
 | .normal=> .normal
 | .exit id=> .exit id
 | .ret=> .ret
def sS(P:Program)(n0:Nat)(W:Nat->St->Option St):Prop:= ∀blk st st',W blk st=some st'-> ∀(B:kG P) (a:Act) (w:World),B.n=n0->Now B st a w->Now B st' a w
def aB3(P:Program)(rnd:Bool)(n0:Nat)(c:Code)(st:St)(x:Ex)(st':St):Prop:=
 ∀(F:Fence) (m:Nat),Wd F->(rnd=false->F.round=none)-> ∀(B:kG P) (a:Act) (w:World),B.n=n0->Now B st a w->c.wpIn F m P (fun e a' w'=>e=UT x/\Now B st' a' w') a w
theorem RU {rnd:Bool} {n0:Nat} {c:Code} {E:(Ex->St->Prop)->St->Prop}
  (hE: ∀(K:Ex->St->Prop) (st:St),E K st-> ∃x st',K x st'/\aB3 P rnd n0 c st x st') {K:Ex->St->Prop}:
  ∀(n:Nat) (st:St),iter E K n st-> ∃x st',x≠ .normal/\K x st'/\
   ∀(F:Fence) (m:Nat),Wd F->(rnd=false->F.round=none)-> ∀(B:kG P) (a:Act) (w:World),B.n=n0->Now B st a w->Code.roundsIn F m P c (fun e a' w'=>e=UT x/\Now B st' a' w') n a w
 |0,st,h=>h.elim
 |n+1,st,h=>by
  obtain ⟨x,st',hx,hgo⟩:=hE _ st h
  cases x with
  |normal=>
   obtain ⟨y,st2,h1,h2,h3⟩:=RU hE n st' hx
   refine ⟨y,st2,h1,h2,fun F m hF hr B a w hB hn=> ?_⟩
   rw [roundsIn_succ]
   refine wpIn_mono (hgo F m hF hr B a w hB hn) ?_
   rintro e a' w' ⟨rfl,hn'⟩
   exact h3 F m hF hr B a' w' hB hn'
  |exit id=>
   refine ⟨.exit id,st',by simp,hx,fun F m hF hr B a w hB hn=> ?_⟩
   rw [roundsIn_succ]
   refine wpIn_mono (hgo F m hF hr B a w hB hn) ?_
   rintro e a' w' ⟨rfl,hn'⟩
   exact ⟨rfl,hn'⟩
  |ret=>
   refine ⟨.ret,st',by simp,hx,fun F m hF hr B a w hB hn=> ?_⟩
   rw [roundsIn_succ]
   refine wpIn_mono (hgo F m hF hr B a w hB hn) ?_
   rintro e a' w' ⟨rfl,hn'⟩
   exact ⟨rfl,hn'⟩
theorem GX{f:St->Option St}{K:St->Prop}{s:St}(h:wk f K s): ∃s',f s=some s'/\K s':=by
 unfold wk at h
 split at h
 ·rename_i s' hs;exact ⟨s',hs,h⟩
 ·exact h.elim
theorem dT{env:Env}(he:oG P env)(hmix:P.follows .mixedOrders=true){W:Nat->St->Option St}{n0:Nat}(hW:sS P n0 W):
  ∀(c:Code) (blk:Nat) (K:Ex->St->Prop) (st:St),dN env W blk c K st-> ∃x st',K x st'/\aB3 P env.rnd n0 c st x st'
 | .skip,blk,K,st,h=>⟨.normal,st,h,fun F m hF hr B a w hB hn=>wpIn_skip ⟨rfl,hn⟩⟩
 | .seq c d,blk,K,st,h=>by
  obtain ⟨x,st1,hx,hgo⟩:=dT he hmix hW c blk _ st h
  cases x with
  |normal=>
   obtain ⟨y,st2,hy,hgo2⟩:=dT he hmix hW d blk K st1 hx
   refine ⟨y,st2,hy,fun F m hF hr B a w hB hn=>wpIn_seq (wpIn_mono (hgo F m hF hr B a w hB hn) ?_)⟩
   rintro e a' w' ⟨rfl,hn'⟩
   exact hgo2 F m hF hr B a' w' hB hn'
  |exit id=>
   refine ⟨.exit id,st1,hx,fun F m hF hr B a w hB hn=>wpIn_seq (wpIn_mono (hgo F m hF hr B a w hB hn) ?_)⟩
   rintro e a' w' ⟨rfl,hn'⟩
   exact ⟨rfl,hn'⟩
  |ret=>
   refine ⟨.ret,st1,hx,fun F m hF hr B a w hB hn=>wpIn_seq (wpIn_mono (hgo F m hF hr B a w hB hn) ?_)⟩
   rintro e a' w' ⟨rfl,hn'⟩
   exact ⟨rfl,hn'⟩
 | .cond o c d,blk,K,st,h=>by
  simp only [dN] at h
  split at h
  ·rename_i t
   split at h
   ·rename_i b hb
    have hv: ∀(B:kG P) (a:Act) (w:World),Now B st a w->a.eval (.tmp t)= .bool b:=by
     rintro B a w ⟨_,ρ,T,hh⟩
     have:=hh.tmps t
     rw [hb] at this
     exact this
    rcases Br.elim h with ⟨rfl,h⟩|⟨rfl,h⟩
    ·obtain ⟨x,st',hx,hgo⟩:=dT he hmix hW c blk K _ h
     exact ⟨x,st',hx,fun F m hF hr B a w hB hn=>wpIn_cond_true (hv B a w hn) (hgo F m hF hr B a w hB (KU (jJ hb) hn))⟩
    ·obtain ⟨x,st',hx,hgo⟩:=dT he hmix hW d blk K _ h
     exact ⟨x,st',hx,fun F m hF hr B a w hB hn=>wpIn_cond_false (hv B a w hn) (hgo F m hF hr B a w hB (KU (jJ hb) hn))⟩
   ·exact h.elim
  ·obtain ⟨x,st',hx,hgo⟩:=dT he hmix hW c blk K _ h
   exact ⟨x,st',hx,fun F m hF hr B a w hB hn=>wpIn_cond_true rfl (hgo F m hF hr B a w hB hn)⟩
  ·obtain ⟨x,st',hx,hgo⟩:=dT he hmix hW d blk K _ h
   exact ⟨x,st',hx,fun F m hF hr B a w hB hn=>wpIn_cond_false rfl (hgo F m hF hr B a w hB hn)⟩
  ·exact h.elim
 | .block id c,blk,K,st,h=>by
  obtain ⟨x,st',hx,hgo⟩:=dT he hmix hW c id _ st h
  cases x with
  |normal=>
   refine ⟨.normal,st',hx,fun F m hF hr B a w hB hn=>wpIn_block (wpIn_mono (hgo F m hF hr B a w hB hn) ?_)⟩
   rintro e a' w' ⟨rfl,hn'⟩
   exact ⟨rfl,hn'⟩
  |exit i=>
   simp only at hx
   cases hb:Nat.beq i id with
   |true=>
    rw [hb] at hx
    refine ⟨.normal,st',hx,fun F m hF hr B a w hB hn=>wpIn_block (wpIn_mono (hgo F m hF hr B a w hB hn) ?_)⟩
    rintro e a' w' ⟨rfl,hn'⟩
    simp only [UT,Exit.inBlock,if_pos (Nat.eq_of_beq_eq_true hb)]
    exact ⟨trivial,hn'⟩
   |false=>
    rw [hb] at hx
    refine ⟨.exit i,st',hx,fun F m hF hr B a w hB hn=>wpIn_block (wpIn_mono (hgo F m hF hr B a w hB hn) ?_)⟩
    rintro e a' w' ⟨rfl,hn'⟩
    have hne:i≠id:=by rintro rfl;rw [Nat.beq_refl] at hb;cases hb
    simp only [UT,Exit.inBlock,if_neg hne]
    exact ⟨trivial,hn'⟩
  |ret=>
   refine ⟨.ret,st',hx,fun F m hF hr B a w hB hn=>wpIn_block (wpIn_mono (hgo F m hF hr B a w hB hn) ?_)⟩
   rintro e a' w' ⟨rfl,hn'⟩
   exact ⟨rfl,hn'⟩
 | .loop c,blk,K,st,h=>by
  simp only [dN] at h
  have done: ∀(n:Nat) (E:(Ex->St->Prop)->St->Prop) (st:St),
    (∀(K:Ex->St->Prop) (st:St),E K st-> ∃x st',K x st'/\aB3 P env.rnd n0 c st x st')->
    iter E K n st-> ∃x st',K x st'/\aB3 P env.rnd n0 (.loop c) st x st':=by
   intro n E st hE hi
   obtain ⟨x,st',_,hx,hr2⟩:=RU hE n st hi
   exact ⟨x,st',hx,fun F m hF hr B a w hB hn=>wpIn_loop_rounds n (hr2 F m hF hr B a w hB hn)⟩
  split at h
  ·obtain ⟨n,h⟩:=h
   obtain ⟨s',hw,h⟩:=GX h
   obtain ⟨x,st',hx,hgo⟩:=done n _ s' (fun K st h=>by
    obtain ⟨x,st1,hx,hgo⟩:=dT he hmix hW c blk (fun e=>wk (W blk) (K e)) st h
    obtain ⟨st2,hw,hx⟩:=GX hx
    exact ⟨x,st2,hx,fun F m hF hr B a w hB hn=>wpIn_mono (hgo F m hF hr B a w hB hn) fun e a' w' ⟨h1,h2⟩=>⟨h1,hW _ _ _ hw B a' w' hB h2⟩⟩) h
   exact ⟨x,st',hx,fun F m hF hr B a w hB hn=>hgo F m hF hr B a w hB (hW _ _ _ hw B a w hB hn)⟩
  ·exact done _ _ _ (fun K st h=>dT he hmix hW c blk K st h) h
 | .exit id,blk,K,st,h=>⟨.exit id,st,h,fun F m hF hr B a w hB hn=>wpIn_exit ⟨rfl,hn⟩⟩
 | .ret,blk,K,st,h=>⟨.ret,st,h,fun F m hF hr B a w hB hn=>wpIn_ret ⟨rfl,hn⟩⟩
 | .region id ops draw,blk,K,st,h=>by
  simp only [dN] at h
  cases hd:CH st.nt ops.toList with
  |false=>rw [hd] at h;exact h.elim
  |true=>
   rw [hd] at h
   simp only [cond_true] at h
   cases hcut:env.cut id with
   |false=>
    rw [hcut] at h
    obtain ⟨st',hK,hgo⟩:=ER he hmix (id:=id) hd (K:=K .normal) h
    exact ⟨.normal,st',hK,fun F m hF hr B a w hB hn=>hgo B a w hn F m hF _ fun a' w' hn'=>⟨rfl,hn'⟩⟩
   |true=>
    rw [hcut] at h
    obtain ⟨s',hw,h⟩:=GX h
    obtain ⟨hs',h⟩:=If.elim h
    obtain ⟨st',hK,hgo⟩:=ER he hmix (id:=id) (by rw [Nat.eq_of_beq_eq_true hs'];exact hd) (K:=K .normal) h
    exact ⟨.normal,st',hK,fun F m hF hr B a w hB hn=>hgo B a w (hW _ _ _ hw B a w hB hn) F m hF _ fun a' w' hn'=>⟨rfl,hn'⟩⟩
 | .rangeFunc g ps assign body,blk,K,st,h=>by
  simp only [dN] at h
  cases hc:env.rnd|| !(pL st.nt ps.toList) with
  |true=>rw [hc] at h;exact h.elim
  |false=>
  rw [hc] at h
  simp only [Bool.or_eq_false_iff] at hc
  simp only [cond_false] at h
  split at h
  ·rename_i k first cap hg
   cases hft:HF env k with
   |true=>rw [hft] at h;exact h.elim
   |false=>
   rw [hft] at h
   simp only [cond_false] at h
   obtain ⟨v,u,n,rd,wr,hK,hgo⟩:=aAL he hg hft h
   simp only [sC] at hK
   split at hK
   ·rename_i tm nt ps' as bd pend hlk
    rcases pend with _|_|e
    ·exact ⟨.normal,_,hK,fun F m hF hr B a w hB hn=>hgo F m hF (hr hc.1) B a w hn _ _ _ _ _ _ hlk (by intro e;cases e) _ fun a' w' hn'=>⟨rfl,hn'⟩⟩
    ·exact hK.elim
    ·refine ⟨e,_,hK,fun F m hF hr B a w hB hn=>hgo F m hF (hr hc.1) B a w hn _ _ _ _ _ _ hlk (by intro e;cases e) _ fun a' w' hn'=>⟨?_,hn'⟩⟩
     cases e<;>rfl
   ·exact hK.elim
  ·exact h.elim
 | .scope _,blk,K,st,h=>h.elim
 | .label _,blk,K,st,h=>h.elim
 | .goto _,blk,K,st,h=>h.elim
 | .refuse _,blk,K,st,h=>h.elim
end Go.Se
namespace Go.Se
variable {P:Program}
theorem BM : ∀(xs:List SV) (i t:Nat),get (params xs i) t=if h:i<=t/\t - i<xs.length then xs[t - i]'h.2 else .junk
 | [],i,t=>by simp [params,get]
 |x::xs,i,t=>by
  simp only [params,get]
  by_cases e:i=t
  ·subst e;simp
  ·have hb:Nat.beq i t=false:=by rw [Bool.eq_false_iff];intro h;exact e (Nat.eq_of_beq_eq_true h)
   rw [hb,cond_false,BM xs (i+1) t]
   by_cases h:i+1<=t/\t - (i+1)<xs.length
   ·rw [dif_pos h,dif_pos ⟨by omega,by simp;omega⟩]
    have:t - i=(t - (i+1))+1:=by omega
    simp [this]
   ·rw [dif_neg h,dif_neg]
    rintro ⟨h1,h2⟩
    simp only [List.length_cons] at h2
    exact h ⟨by omega,by omega⟩
theorem lC : ∀(σ:List (Option SB)) (i t:Nat),aI (s4 σ i) t=if h:i<=t/\t - i<σ.length then σ[t - i]'h.2 else none
 | [],i,t=>by simp [s4,aI]
 |x::xs,i,t=>by
  simp only [s4,aI]
  by_cases e:i=t
  ·subst e;simp
  ·have hb:Nat.beq i t=false:=by rw [Bool.eq_false_iff];intro h;exact e (Nat.eq_of_beq_eq_true h)
   rw [hb,cond_false,lC xs (i+1) t]
   by_cases h:i+1<=t/\t - (i+1)<xs.length
   ·rw [dif_pos h,dif_pos ⟨by omega,by simp;omega⟩]
    have:t - i=(t - (i+1))+1:=by omega
    simp [this]
   ·rw [dif_neg h,dif_neg]
    rintro ⟨h1,h2⟩
    simp only [List.length_cons] at h2
    exact h ⟨by omega,by omega⟩
theorem rH : ∀(n i:Nat),(o8 n)[i]? =if i<n then some i else none
 |0,i=>by simp [o8]
 |n+1,i=>by
  have hlen:(o8 n).length=n:=by
   have:=fun j=>rH n j
   rcases Nat.lt_trichotomy (o8 n).length n with h|h|h
   ·have h1:=this (o8 n).length
    rw [if_pos h] at h1
    simp at h1
   ·exact h
   ·have h1:=this n
    rw [if_neg (Nat.lt_irrefl _),List.getElem?_eq_getElem h] at h1
    cases h1
  simp only [o8]
  rcases Nat.lt_trichotomy i n with h|h|h
  ·rw [List.getElem?_append_left (by omega),rH n i,if_pos h,if_pos (by omega)]
  ·subst h
   rw [List.getElem?_append_right (by omega),hlen];simp
  ·rw [List.getElem?_append_right (by omega),hlen,if_neg (by omega)]
   have:i - n≠0:=by omega
   rw [List.getElem?_eq_none (by simp;omega)]
theorem aAS(n:Nat):(o8 n).length=n:=by
 rcases Nat.lt_trichotomy (o8 n).length n with h|h|h
 ·have h1:=rH n (o8 n).length
  rw [if_pos h] at h1
  simp at h1
 ·exact h
 ·have h1:=rH n n
  rw [if_neg (Nat.lt_irrefl _),List.getElem?_eq_getElem h] at h1
  cases h1
theorem NQ {env:Env} (he:oG P env) {st:St} {r:ResultVar} {v:SV} (h:zW env st r=some v) {B:kG P} {A:Nat->Prop} {D:List Nat} {nt:Nat} {a:Act} {w:World}
  {ρ:aG} {T:Nat->Prop} (hh:fP B (get st.tmps) (aI st.store) A D nt a w ρ T):
  ∃y,((match r with| .tmp t=>Pure.pure (a.tmps.getD t undef)| .cell x t=>(do loadVar t (<- asAddr (a.tmps.getD x undef)))):Sem Value).run P w= .ok y w/\rel ρ T w v y:=by
 cases r with
 |tmp t=>
  simp only [zW,Option.some.injEq] at h
  subst h
  exact ⟨_,rfl,hh.tmps t⟩
 |cell x t=>
  simp only [zW] at h
  split at h
  ·rename_i ti id off ht hx
   split at h
   ·rename_i e cs hl
    have h1:=hh.tmps x
    rw [hx] at h1
    obtain ⟨b,h2,h3⟩:=h1
    obtain ⟨_,b',h4,h5,vs,h6,h7⟩:=hh.store id _ hl
    rw [h2] at h4;cases h4
    obtain ⟨y,h8,h9⟩:=yP (he.tt _ _ ht) h6 h7 h
    refine ⟨y, ?_,h9⟩
    simp only [Sem.run_bind,h3,asAddr,Sem.run_pure,Result.andThen_ok,h8]
   ·cases h
  ·cases h
theorem zA {env:Env} (he:oG P env) {st:St} {B:kG P} {A:Nat->Prop} {D:List Nat} {nt:Nat} {a:Act} {w:World}
  {ρ:aG} {T:Nat->Prop} (hh:fP B (get st.tmps) (aI st.store) A D nt a w ρ T): ∀(rs:List ResultVar) (vs:List SV),pG env st rs=some vs->
  ∃ys,(rs.mapM fun r=>((match r with| .tmp t=>Pure.pure (a.tmps.getD t undef)| .cell x t=>(do loadVar t (<- asAddr (a.tmps.getD x undef)))):Sem Value)).run P w= .ok ys w/\aQ ρ T w vs ys
 | [],vs,h=>by
  simp only [pG,Option.some.injEq] at h
  subst h
  exact ⟨[],rfl,rfl⟩
 |r::rs,vs,h=>by
  simp only [pG] at h
  split at h
  ·rename_i v vs' hv hvs
   cases h
   obtain ⟨y,h1,h2⟩:=NQ he hv hh
   obtain ⟨ys,h3,h4⟩:=zA he hh rs vs' hvs
   refine ⟨y::ys, ?_,y,ys,rfl,h2,h4⟩
   rw [List.mapM_cons]
   simp only [Sem.run_bind,h1,Result.andThen_ok,h3,Sem.run_pure]
  ·cases h
theorem NO {env:Env} (he:oG P env) {st:St} {fn:Func} {vs:List SV} (h:pG env st fn.results.toList=some vs) {B:kG P} {A:Nat->Prop} {D:List Nat} {nt:Nat} {a:Act} {w:World}
  {ρ:aG} {T:Nat->Prop} (hh:fP B (get st.tmps) (aI st.store) A D nt a w ρ T):
  ∃y,(results fn a.tmps).run P w= .ok y w/\rel ρ T w (IJ vs) y:=by
 obtain ⟨ys,h1,h2⟩:=zA he hh _ _ h
 refine ⟨if hs:ys.toArray.size=1 then ys.toArray[0] else .tuple ys.toArray, ?_, ?_⟩
 ·unfold results
  rw [Sem.run_bind]
  have:(fn.results.mapM fun r=>((match r with| .tmp t=>Pure.pure (a.tmps.getD t undef)| .cell x t=>(do loadVar t (<- asAddr (a.tmps.getD x undef)))):Sem Value)).run P w= .ok ys.toArray w:=by
   rw [<- Array.toArray_toList (xs:=fn.results),List.mapM_toArray]
   simp only [Sem.run_map,h1,Result.andThen_ok]
  exact congrArg (fun r:Result (Array Value)=>r.andThen fun b w'=>Sem.run P (Pure.pure (if h:b.size=1 then b[0] else Value.tuple b):Sem Value) w') this
 ·have hl:=bJ h2
  match vs,h2,hl with
  | [v],h2,_=>
   obtain ⟨y,r,h3,h4,h5⟩:=h2
   have h5':r=[]:=h5
   subst h5'
   subst h3
   simpa [IJ] using h4
  | [],h2,hl=>
   rw [dif_neg (by simp at hl|-;omega)]
   exact ⟨ys.toArray,rfl,by simpa using h2⟩
  |_::_::_,h2,hl=>
   rw [dif_neg (by simp at hl|-;omega)]
   exact ⟨ys.toArray,rfl,by simpa using h2⟩
theorem x7 {st:St} {w:World} {ρ:aG} {T:Nat->Prop} {σ:List (Option SB)} {v:SV} {F G:List Nat} (hF:gB st.store 200 (o8 σ.length++ids v) []=F) (hG:o8 σ.length++F.filter (fun i=>Nat.ble σ.length i)=G)
  {D:List Nat} (hD:D=st.dirty) {A:Nat->Prop} {nt:Nat} {a':Act} {w':World} {ρ':aG} {T':Nat->Prop} {tm:Nat->SV} (hh:fP (⟨w,ρ,T,σ.length⟩:kG P) tm (aI st.store) A D nt a' w' ρ' T') {y:Value} (hy2:rel ρ' T' w' v y):
  ∃ρ2 T2,iH ρ T w σ (ren (fun i=>idx G i 0) v) (G.map fun i=>(aI st.store i).map (jO fun i=>idx G i 0)) (st.dirty.filter fun i=>Nat.blt i σ.length) ρ2 T2 w' y:=by
 subst hD
 obtain ⟨hnd,halive⟩:=oQ (s:=st.store) 200 (o8 σ.length++ids v) [] List.nodup_nil (by simp)
 rw [hF] at hnd halive
 have hup:=aAS σ.length
 have hGlt: ∀p,p<σ.length->G[p]? =some p:=by
  intro p hp
  rw [<- hG,List.getElem?_append_left (by omega),rH,if_pos hp]
 have hGge: ∀p i,σ.length<=p->G[p]? =some i->(F.filter fun i=>Nat.ble σ.length i)[p - σ.length]? =some i:=by
  intro p i hp hi
  rw [<- hG,List.getElem?_append_right (by omega),hup] at hi
  exact hi
 have hGlen:σ.length<=G.length:=by rw [<- hG,List.length_append];omega
 let ρ2:aG:=fun p=>(G[p]?).bind ρ'
 have hren: ∀i j b,(fun i=>idx G i 0) i=some j->ρ' i=some b->ρ2 j=some b:=by
  intro i j b hi hb
  obtain ⟨_,hj⟩:=KR hi
  rw [Nat.sub_zero] at hj
  show (G[j]?).bind ρ'=some b
  rw [hj];exact hb
 have hdead: ∀q,q∈st.dirty->q<σ.length->aI st.store q=none->
   q∈(st.dirty.filter fun i=>Nat.blt i σ.length)/\(G.map fun i=>(aI st.store i).map (jO fun i=>idx G i 0))[q]? =some none:=by
  intro q h1 h2 h3
  refine ⟨List.mem_filter.2 ⟨h1,by simpa using h2⟩, ?_⟩
  rw [List.getElem?_map,hGlt q h2,Option.map_some,h3];rfl
 have hdone:iH ρ T w σ (ren (fun i=>idx G i 0) v) (G.map fun i=>(aI st.store i).map (jO fun i=>idx G i 0)) (st.dirty.filter fun i=>Nat.blt i σ.length) ρ2 T' w' y:=by
  refine {
   names:=fun p b hp=> ?_
   only:=fun p b hp=> ?_
   len:=by simpa using hGlen
   val:=qI hren _ _ hy2
   store:=fun p sb hp=> ?_
   fresh:=fun p b hp hb=> ?_
   inj:=fun p q b hp hq h1 h2=> ?_
   dirty:=fun p hp=>by simpa using (List.mem_filter.1 hp).2
   grow:=hh.grow.mono fun b _ ⟨p,h1,h2,h3⟩=>⟨p,List.mem_filter.2 ⟨h1,by simpa using h2⟩,h3⟩
   tback:=hh.tback
   below:=fun p b hp=> ?_
   tkeep:=fun b hb hT=> ?_}
  ·have h1:=hh.old p b hp
   show (G[p]?).bind ρ'=some b
   rw [hGlt p h1.1];exact h1.2
  ·obtain ⟨i,hi,_⟩:=Option.bind_eq_some_iff.1 hp
   have:=(List.getElem?_eq_some_iff.1 hi).1
   simpa using this
  ·rw [List.getElem?_map] at hp
   cases hi:G[p]? with
   |none=>rw [hi] at hp;cases hp
   |some i=>
    rw [hi,Option.map_some,Option.some.injEq] at hp
    cases hl:aI st.store i with
    |none=>rw [hl] at hp;cases hp
    |some sb0=>
     rw [hl,Option.map_some,Option.some.injEq] at hp
     subst hp
     obtain ⟨_,b,h1,h2,h3⟩:=hh.store i sb0 hl
     exact ⟨b,by show (G[p]?).bind ρ'=some b;rw [hi];exact h1,h2,rU hren h3⟩
  ·obtain ⟨i,hi,hib⟩:=Option.bind_eq_some_iff.1 hb
   have h1:=List.mem_of_getElem? (hGge p i hp hi)
   obtain ⟨h2,h3⟩:=List.mem_filter.1 h1
   obtain ⟨sb,hsb⟩:=halive i h2
   rcases hh.fresh i b (by rw [hsb];rfl) (Nat.le_of_ble_eq_true h3) hib with h4|⟨q,h4,h5,h6,h7⟩
   ·exact .inl h4
   ·obtain ⟨h8,h9⟩:=hdead q h4 h5 h6
    exact .inr ⟨q,h8,h9,h7⟩
  ·obtain ⟨i,hi,hib⟩:=Option.bind_eq_some_iff.1 h1
   obtain ⟨j,hj,hjb⟩:=Option.bind_eq_some_iff.1 h2
   have hi':=hGge p i hp hi
   have hj':=hGge q j hq hj
   obtain ⟨si,hsi⟩:=halive i (List.mem_filter.1 (List.mem_of_getElem? hi')).1
   obtain ⟨sj,hsj⟩:=halive j (List.mem_filter.1 (List.mem_of_getElem? hj')).1
   have hij:=hh.inj i j b (by rw [hsi];rfl) (by rw [hsj];rfl) hib hjb
   subst hij
   obtain ⟨l1,e1⟩:=List.getElem?_eq_some_iff.1 hi'
   obtain ⟨l2,e2⟩:=List.getElem?_eq_some_iff.1 hj'
   have:=w9 (hnd.filter _) l1 l2 (e1.trans e2.symm)
   omega
  ·obtain ⟨i,hi,hib⟩:=Option.bind_eq_some_iff.1 hp
   exact (hh.names i b hib).2
  ·rcases hh.tkeep b hb hT with h1|⟨q,h1,h2,h3,h4⟩
   ·exact .inl h1
   ·obtain ⟨h5,h6⟩:=hdead q h1 h2 h3
    exact .inr ⟨q,h5,h6,h4⟩
 exact ⟨ρ2,T',hdone⟩
theorem OQ {env:Env} (he:oG P env) (hmix:P.follows .mixedOrders=true) {W:Nat->Nat->St->Option St} (hW: ∀n,sS P n (W n)) {k:FuncId} {fn:Func} (hf:P.funcs[k]? =some fn)
  (hname:(fn.name== "runtime.NumGoroutine")=false) (xs:List SV) (σ:List (Option SB)):Sat P k xs σ (OW env W fn xs σ):=by
 intro K h
 unfold OW at h
 split at h
 ·exact h.elim
 ·rename_i c hbody
  obtain ⟨x,st,hx,hgo⟩:=dT he hmix (hW σ.length) c _ _ _ h
  have hfin:IB env σ.length fn.results.toList K st/\(UT x= .normal\/UT x= .ret):=by
   cases x with
   |normal=>exact ⟨hx,.inl rfl⟩
   |exit i=>exact hx.elim
   |ret=>exact ⟨hx,.inr rfl⟩
  obtain ⟨hfin,hex⟩:=hfin
  unfold IB at hfin
  split at hfin
  ·exact hfin.elim
  ·rename_i vs hvs
   unfold tE at hfin
   simp only at hfin
   generalize hv:IJ vs=v at hfin
   obtain ⟨hnd,halive⟩:=oQ (s:=st.store) 200 (o8 σ.length++ids v) [] List.nodup_nil (by simp)
   generalize hF:gB st.store 200 (o8 σ.length++ids v) []=F at hfin hnd halive
   generalize hG:o8 σ.length++F.filter (fun i=>Nat.ble σ.length i)=G at hfin
   refine ⟨ren (fun i=>idx G i 0) v,G.map fun i=>(aI st.store i).map (jO fun i=>idx G i 0),st.dirty.filter fun i=>Nat.blt i σ.length,hfin, ?_⟩
   intro ρ T w vals hvals hstore hinj hnames
   let B:kG P:=⟨w,ρ,T,σ.length⟩
   have hlen:=bJ hvals
   have hlen':xs.length=vals.size:=by simpa using hlen
   have hstart:Now B ⟨params xs 0,s4 σ 0,σ.length,[],xs.length+(fn.ntmps - xs.length)⟩ {tmps:=vals++Array.replicate (fn.ntmps - vals.size) undef,defers:=[]} w:=by
    refine ⟨Nat.le_refl _,ρ,T, ?_⟩
    exact {
     defers:=vL.nil
     size:=by simp [hlen']
     tmps:=fun t=>by
      rw [BM]
      split
      ·rename_i ht
       simp only [Nat.sub_zero] at ht|-
       obtain ⟨y,hy1,hy2⟩:=DG t hvals (List.getElem?_eq_getElem ht.2)
       have:(vals++Array.replicate (fn.ntmps - vals.size) undef).getD t undef=y:=by
        rw [Array.getD_eq_getD_getElem?,Array.getElem?_append_left (by omega)]
        rw [Array.getElem?_toList] at hy1
        rw [hy1];rfl
       rw [this];exact hy2
      ·trivial
     store:=fun id sb hid=>by
      rw [lC] at hid
      split at hid
      ·rename_i ht
       simp only [Nat.sub_zero] at ht hid
       obtain ⟨sb',b,h1,h2,h3,h4⟩:=hstore id ht.2
       rw [List.getElem?_eq_getElem ht.2,hid] at h1
       cases h1
       exact ⟨ht.2,b,h2,h3,h4⟩
      ·cases hid
     names:=hnames
     inj:=fun i j b _ _ h1 h2=>hinj i j b h1 h2
     base:=fun _ h=>h
     full:=fun p hp=>by obtain ⟨_,b,_,h2,_⟩:=hstore p hp;exact ⟨b,h2⟩
     grow:=aX.refl _ _
     old:=fun p b hp=>⟨(hnames p b hp).1,hp⟩
     tback:=fun _ _ h=>h
     tkeep:=fun _ _ h=> .inl h
     fresh:=fun id b hid hn _=>by
      exfalso
      rw [lC] at hid
      split at hid
      ·rename_i ht;simp only [Nat.sub_zero] at ht;exact absurd hn (Nat.not_le.2 ht.2)
      ·cases hid
     inv:=hnames.inv}
   have hwp:=hgo Fence.wide 0 ⟨none,rfl⟩ (fun _=>rfl) B _ w rfl hstart
   left
   refine ⟨fn,hf,by rw [hbody];rfl,hname,callsIn_wide.1 (callsIn_of_wp_marks (n:=0) hf hbody trivial (wpIn_mono hwp ?_))⟩
   rintro e a0 w0 ⟨rfl,hB',ρ',T',hh0⟩
   obtain ⟨marks,hm1,hm2,hm3⟩:=hh0.defers
   have key:=vR (fn:=fn) marks a0 w0 hm1 hm2 hm3 hh0 (R:=fun e w'=> ∃x,e= .returned x/\ ∃ρ2 T2,iH ρ T w σ (ren (fun i=>idx G i 0) v) (G.map fun i=>(aI st.store i).map (jO fun i=>idx G i 0)) (st.dirty.filter fun i=>Nat.blt i σ.length) ρ2 T2 w' x) ?_
   ·rcases hex with hex|hex<;>rw [hex]<;>exact key
   intro a' w' htm hh
   rw [<- htm]
   obtain ⟨y,hy1,hy2⟩:=NO he hvs hh
   rw [hv] at hy2
   obtain ⟨ρ2,T2,hdone⟩:=x7 hF hG rfl hh hy2
   exact ⟨y,hy1,y,rfl,ρ2,T2,hdone⟩
theorem DS{env:Env}(he:oG P env)(hrnd:env.rnd=true)(hmix:P.follows .mixedOrders=true){W:Nat->Nat->St->Option St}(hW: ∀n,sS P n (W n))(xs:List SV)(σ:List (Option SB)):aCe P xs σ (xH env W xs σ):=by
 intro K h
 unfold xH at h
 split at h
 case h_2=>exact h.elim
 rename_i tm nt ps assign body r
 cases hc:Nat.beq ps.length xs.length&&pL nt ps with
 |false=>rw [hc] at h;exact h.elim
 |true=>
 rw [hc] at h
 simp only [Bool.and_eq_true] at hc
 obtain ⟨hc1,hc2⟩:=hc
 have hc1:=Nat.eq_of_beq_eq_true hc1
 simp only [cond_true] at h
 obtain ⟨x1,st1,hx1,hgo1⟩:=dT he hmix (hW _) assign _ _ _ h
 cases x1 with
 |exit id=>exact hx1.elim
 |ret=>exact hx1.elim
 |normal=>
 simp only at hx1
 split at hx1
 case h_2=>exact hx1.elim
 rename_i tm1 nt1 ps1 as1 bd1 hlk1
 obtain ⟨x2,st2,hx2,hgo2⟩:=dT he hmix (hW _) body _ _ _ hx1
 split at hx2
 case h_2=>exact hx2.elim
 rename_i tm2 nt2 ps2 as2 bd2 hlk2
 have hend: ∃(b:Bool) (pd:Pd),tE (r.length+1) (.bool b) K {st2 with store:=(0,some (.loop tm2 nt2 ps2 as2 bd2 pd))::st2.store,dirty:=iS st2.dirty [0]}/\b=(match x2 with| .normal=>true|_=>false)/\pd=(match x2 with| .normal=> .ready|e=> .left e):=by
  cases x2 with
  |normal=>exact ⟨true,.ready,hx2,rfl,rfl⟩
  |exit id=>exact ⟨false,.left (.exit id),hx2,rfl,rfl⟩
  |ret=>exact ⟨false,.left .ret,hx2,rfl,rfl⟩
 obtain ⟨b,pd,hfin,hb,hpd⟩:=hend
 unfold tE at hfin
 simp only at hfin
 generalize hF:gB ((0,some (SB.loop tm2 nt2 ps2 as2 bd2 pd))::st2.store) 200 (o8 (r.length+1)++ids (SV.bool b)) []=F at hfin
 generalize hG:o8 (r.length+1)++F.filter (fun i=>Nat.ble (r.length+1) i)=G at hfin
 refine ⟨_,_,_,hfin, ?_⟩
 intro ρ T w vals hvals hstore hinj hlow
 obtain ⟨sb,l,h0,hl,hT,hrel⟩:=hstore 0 (by simp)
 simp only [List.getElem?_cons_zero,Option.some.injEq] at h0
 subst h0
 obtain ⟨rec0,hr1,hr2,hr3,rfl,rfl,hr6,hr7⟩:=hrel
 have hlen:=bJ hvals
 refine ⟨l,hl,rec0,hr1, ?_,fun F0 n hFw=> ?_⟩
 ·have:rec0.params.size=ps.length:=by rw [<- hr3];simp
  simp only [Array.length_toList] at hlen
  omega
 refine roundIn_of_wpIn (hFw.fn _) ?_
 let B:kG P:=⟨w,ρ,T,r.length+1⟩
 have hzip:=Q6 ps xs vals.toList (get tm) rec0.tmps hc2 hr6 hc1 hvals hr7
 have hfold:(rec0.params.zip vals).foldl (fun tmps (t,a)=>tmps.setIfInBounds t a) rec0.tmps=(ps.zip vals.toList).foldl (fun tmps (t,a)=>tmps.setIfInBounds t a) rec0.tmps:=by
  rw [<- Array.foldl_toList,Array.toList_zip,hr3]
 rw [hfold]
 have hstart:Now B ⟨Y5 ps xs++tm,s4 (some (.loop tm nt ps rec0.assign rec0.body .ready)::r) 0,r.length+1,[],nt⟩ {tmps:=(ps.zip vals.toList).foldl (fun tmps (t,a)=>tmps.setIfInBounds t a) rec0.tmps,defers:=[]} w:=by
  refine ⟨Nat.le_refl _,ρ,T, ?_⟩
  exact {
   defers:=vL.nil
   size:=hzip.1
   tmps:=fun t=>by rw [I0 ps xs tm t hc2];exact hzip.2 t
   store:=fun id sb hid=>by
    rw [lC] at hid
    split at hid
    ·rename_i ht
     simp only [Nat.sub_zero] at ht hid
     obtain ⟨sb',b,h1,h2,h3,h4⟩:=hstore id ht.2
     rw [List.getElem?_eq_getElem ht.2,hid] at h1
     cases h1
     exact ⟨by simpa using ht.2,b,h2,h3,h4⟩
    ·cases hid
   names:=fun id b hid=>by have:=hlow.low id b hid;simpa using this
   inj:=fun i j b _ _ h1 h2=>hinj i j b h1 h2
   base:=fun _ h=>h
   full:=fun p hp=>by obtain ⟨_,b,_,h2,_⟩:=hstore p (by simpa using hp);exact ⟨b,h2⟩
   grow:=aX.refl _ _
   old:=fun p b hp=>⟨by have:=(hlow.low p b hp).1;simpa using this,hp⟩
   tback:=fun _ _ h=>h
   tkeep:=fun _ _ h=> .inl h
   fresh:=fun id b hid hn _=>by
    exfalso
    rw [lC] at hid
    split at hid
    ·rename_i ht
     have h1:id<r.length+1:=by have:=ht.2;simpa using this
     have h2:r.length+1<=id:=hn
     omega
    ·cases hid
   inv:=hlow.inv}
 have g1:=hgo1 (F0.inRound l) n (hFw.in l) (fun e=>by rw [hrnd] at e;cases e) B _ w rfl hstart
 refine wpIn_mono g1 ?_
 rintro e a1 w1 ⟨rfl,hB1,ρ1,T1,hh1⟩
 have hl1:ρ1 0=some l:=(hh1.old 0 l hl).2
 obtain ⟨_,l1,e1,e2,rec1,f1,f2,f3,f4,f5,f6,f7⟩:=hh1.store 0 _ hlk1
 rw [hl1] at e1;cases e1
 show∃w₂,(Instr.beginRound l).run P w1= .ok () w₂/\_
 refine ⟨_,run_beginRound f1 f2.1, ?_⟩
 have hp1:=nA (o':= .loop {rec1 with state:= .busy}) f1 (fun _ _ _ e=>by cases e)
 have hn2:Now B {st1 with store:=(0,some (.loop tm1 nt1 ps1 as1 bd1 .busy))::st1.store,dirty:=iS st1.dirty [0]} a1 (w1.putObj l (.loop {rec1 with state:= .busy})):=by
  refine ⟨hB1,ρ1,T1,hh1.turnRec (by rw [hlk1];rfl) hl1 hp1 e2 ?_ (Nat.succ_pos _) (fun p hp=>(eD _ _ _).2 (.inl hp)) ((eD _ _ _).2 (.inr (by simp)))⟩
  exact ⟨_,World.putObj_heap_same (Array.getElem?_eq_some_iff.1 f1).1,rfl,f3,f4,f5,f6,fun t=>mF hp1 _ _ (f7 t)⟩
 have g2:=hgo2 (F0.inRound l) n (hFw.in l) (fun e=>by rw [hrnd] at e;cases e) B a1 _ rfl hn2
 refine wpIn_mono g2 ?_
 rintro e a2 w3 ⟨rfl,hB3,ρ3,T3,hh3⟩
 have hl3:ρ3 0=some l:=(hh3.old 0 l hl).2
 obtain ⟨_,l3,k1,k2,rec2,m1,m2,m3,m4,m5,m6,m7⟩:=hh3.store 0 _ hlk2
 rw [hl3] at k1;cases k1
 have fin: ∀(jump:Option Code) (o:LoopState),o=(if jump.isNone then .ready else .done)->XN pd o jump->b=jump.isNone->
   ∃v w',(Instr.endRound l jump).run P w3= .ok v w'/\ ∃x,Ending.returned v= .returned x/\ ∃ρ' T',iH ρ T w (some (.loop tm nt ps rec0.assign rec0.body .ready)::r) (ren (fun i=>idx G i 0) (SV.bool b)) (G.map fun i=>(aI ((0,some (SB.loop tm2 nt2 ps2 as2 bd2 pd))::st2.store) i).map (jO fun i=>idx G i 0)) ((iS st2.dirty [0]).filter fun i=>Nat.blt i (r.length+1)) ρ' T' w' x:=by
  intro jump o ho hpo hbj
  have hp3:=nA (o':= .loop {rec2 with state:=if jump.isNone then .ready else .done,pending:=jump}) m1 (fun _ _ _ e=>by cases e)
  have hh4:=hh3.turnRec (Ds':=iS st2.dirty [0]) (sb:= .loop tm2 nt2 ps2 as2 bd2 pd) (by rw [hlk2];rfl) hl3 hp3 k2
   ⟨_,World.putObj_heap_same (Array.getElem?_eq_some_iff.1 m1).1,by rw [<- ho];exact hpo,m3,m4,m5,m6,fun t=>mF hp3 _ _ (m7 t)⟩ (Nat.succ_pos _) (fun p hp=>(eD _ _ _).2 (.inl hp)) ((eD _ _ _).2 (.inr (by simp)))
  refine ⟨_,_,run_endRound jump m1,_,rfl, ?_⟩
  have:=x7 (st:={st2 with store:=(0,some (SB.loop tm2 nt2 ps2 as2 bd2 pd))::st2.store,dirty:=iS st2.dirty [0]}) (σ:=some (.loop tm nt ps rec0.assign rec0.body .ready)::r) (v:= .bool b) (F:=F) (G:=G) hF hG rfl hh4 (y:= .bool jump.isNone) (by rw [hbj];rfl)
  exact this
 cases x2 with
 |normal=>
  subst hb;subst hpd
  exact fin none _ rfl ⟨rfl,rfl⟩ rfl
 |exit id=>
  subst hb;subst hpd
  exact fin (some (.exit id)) _ rfl ⟨rfl,rfl⟩ rfl
 |ret=>
  subst hb;subst hpd
  exact fin (some .ret) _ rfl ⟨rfl,rfl⟩ rfl
theorem BG {env:Env} (he:aAA P env) (hmix:P.follows .mixedOrders=true) {W:Nat->Nat->St->Option St} (hW: ∀n,sS P n (W n)) {known:FuncId->Bool}
  (hft: ∀k fn,env.ft k=some fn->P.funcs[k]? =some fn/\(fn.name== "runtime.NumGoroutine")=false):
  ∀(d:Nat),(∀(k:FuncId) (xs:List SV) (σ:List (Option SB)),Sat P k xs σ (calls env W known d k xs σ))/\ ∀(xs:List SV) (σ:List (Option SB)),aCe P xs σ (calls.roundsN env W known d xs σ)
 |0=>⟨fun k xs σ=>he.callee k xs σ,fun _ _ _ h=>h.elim⟩
 |d+1=>by
  obtain ⟨ih1,ih2⟩:=BG he hmix hW (known:=known) hft d
  refine ⟨fun k xs σ K h=> ?_,fun xs σ K h=> ?_⟩
  ·simp only [calls] at h
   cases hk:known k with
   |true=>rw [hk] at h;exact he.callee k xs σ K h
   |false=>
    rw [hk] at h
    simp only [cond_false] at h
    split at h
    ·exact h.elim
    ·rename_i fn hfn
     obtain ⟨h1,h2⟩:=hft k fn hfn
     exact OQ (env:={env with callee:=calls env W known d,round:=fun xs σ K=>calls.roundsN env W known d xs σ K}) ⟨⟨he.tt,fun k xs σ=>ih1 k xs σ⟩,fun xs σ=>ih2 xs σ,hft⟩ hmix hW h1 h2 xs σ K h
  ·simp only [calls.roundsN] at h
   exact DS (env:={env with callee:=calls env W known d,round:=fun xs σ K=>calls.roundsN env W known d xs σ K,rnd:=true}) ⟨⟨he.tt,fun k xs σ=>ih1 k xs σ⟩,fun xs σ=>ih2 xs σ,hft⟩ rfl hmix hW xs σ K h
theorem bX {env:Env} (he:aAA P env) (hmix:P.follows .mixedOrders=true) {W:Nat->Nat->St->Option St} (hW: ∀n,sS P n (W n)) {known:FuncId->Bool}
  (hft: ∀k fn,env.ft k=some fn->P.funcs[k]? =some fn/\(fn.name== "runtime.NumGoroutine")=false)
  (d:Nat) (k:FuncId) (xs:List SV) (σ:List (Option SB)):Sat P k xs σ (calls env W known d k xs σ):=(BG he hmix hW hft d).1 k xs σ
end Go.Se
namespace Go.Se
variable {P:Program}
structure Val where
 int:List Nat->Int
 bool:List Nat->Bool
 str:List Nat->ByteArray
 len:List Nat->Nat
def Val.sub(V:Val)(i:Nat):Val:=⟨fun q=>V.int (i::q),fun q=>V.bool (i::q),fun q=>V.str (i::q),fun q=>V.len (i::q)⟩
def Val.zero :Val:=⟨fun _=>0,fun _=>false,fun _=>ByteArray.empty,fun _=>0⟩
def Val.join(n:Int)(b:Bool)(s:ByteArray)(l:Nat)(F:Nat->Val):Val:=
 ⟨fun| []=>n|i::q=>(F i).int q,fun| []=>b|i::q=>(F i).bool q,fun| []=>s|i::q=>(F i).str q,fun| []=>l|i::q=>(F i).len q⟩
def mkF(M:TypeId->Val->List SV):Nat->List (Nat×TypeId)->Val->List SV
 |_,[],_=>[]
 |i,(_,t)::fs,V=>M t (V.sub i)++mkF M (i+1) fs V
def mkN(M:Val->List SV):Nat->Nat->Val->List SV
 |_,0,_=>[]
 |i,n+1,V=>M (V.sub i)++mkN M (i+1) n V
def mk(tt:TypeId->Option TI):Nat->TypeId->Val->List SV
 |0,_,_=>[]
 |d+1,t,V=>match tt t with
  |none=>[]
  |some ti=>match ti.kind with
   | .bool=>[.bool (V.bool [])]
   | .int k=>[.int k (V.int [])]
   | .string=>[.str (V.str [])]
   | .slice e=>match tt e with
    |some te=>[.ro (V.len []) te.size fun i=>mk tt d e (V.sub i)]
    |none=>[]
   | .struct fs=>mkF (mk tt d) 0 fs V
   | .array n e=>mkN (mk tt d e) 0 n V
   |_=>[]
def rY(tt:TypeId->Option TI):Nat->List (Nat×TypeId)->Option Nat
 |o,[]=>some o
 |o,(off,t)::fs=>match tt t with
  |some ti=>bif Nat.beq off o then rY tt (o+ti.size) fs else none
  |none=>none
def yX(tt:TypeId->Option TI):Nat->TypeId->Bool
 |0,_=>false
 |d+1,t=>match tt t with
  |none=>false
  |some ti=>match ti.kind with
   | .bool=>true
   | .int _=>true
   | .string=>true
   | .slice e=>yX tt d e&&(match tt e with|some te=>Nat.blt 0 te.size|none=>false)
   | .struct fs=>fs.all (fun f=>yX tt d f.2)&&(match rY tt 0 fs with|some n=>Nat.beq n ti.size|none=>false)
   | .array n e=>yX tt d e&&(match tt e with|some te=>Nat.beq (n*te.size) ti.size|none=>false)
   |_=>false
theorem FL{α β:Type}{f:α->Option β}: ∀{l:List α} {r:List β},l.mapM f=some r-> ∀(i:Nat) x,l[i]? =some x-> ∃y,r[i]? =some y/\f x=some y
 | [],r,_,i,x,h=>by simp at h
 |a::l,r,hm,i,x,h=>by
  rw [List.mapM_cons] at hm
  cases ha:f a with
  |none=>rw [ha] at hm;simp at hm
  |some b=>
   rw [ha] at hm
   cases hl:l.mapM f with
   |none=>rw [hl] at hm;simp at hm
   |some bs=>
    rw [hl] at hm
    simp at hm
    subst hm
    cases i with
    |zero=>simp at h;subst h;exact ⟨b,by simp,ha⟩
    |succ i=>simpa using FL hl i x (by simpa using h)
theorem KH{α β:Type}{f:α->Option β}: ∀{l:List α} {r:List β},l.mapM f=some r->r.length=l.length
 | [],r,hm=>by simp at hm;subst hm;rfl
 |a::l,r,hm=>by
  rw [List.mapM_cons] at hm
  cases ha:f a with
  |none=>rw [ha] at hm;simp at hm
  |some b=>
   rw [ha] at hm
   cases hl:l.mapM f with
   |none=>rw [hl] at hm;simp at hm
   |some bs=>
    rw [hl] at hm
    simp at hm
    subst hm
    simp [KH hl]
theorem AX{T:Nat->Prop}{w:World}{b:Nat}: ∀{xs:List SV} {cs:List Value} {o:Nat},aQ (fun _=>none) T w xs cs->(∀j c,cs[j]? =some c->w.cell? ⟨b,o+j,none⟩=some c)->dS T w xs b o
 | [],cs,o,_,_=>trivial
 |x::xs,cs,o,⟨v,r,h1,h2,h3⟩,hc=>by
  subst h1
  refine ⟨⟨v,hc 0 v (by simp),h2⟩,AX h3 fun j c hj=> ?_⟩
  have:=hc (j+1) c (by simpa using hj)
  rw [show o+1+j=o+(j+1) by omega];exact this
section
variable {H:Type} {enc:TypeId×Value->H} {w:World} {tt:TypeId->Option TI}
theorem nD{t:TypeId}{ti:TI}(h:eL P t ti):P.cellsOf t=ti.size:=by
 obtain ⟨⟨i,hi,h1,_⟩,_⟩:=h
 simp [Program.cellsOf,hi,h1]
theorem FB{base:Nat}{a:Addr}{n:Nat}{cs:List Value}(h:w.cells? base a n=some cs):cs.length=n/\ ∀j,j<n->w.cell? (a.add j)=cs[j]? :=by
 unfold World.cells? at h
 split at h
 ·refine ⟨by simpa using KH h,fun j hj=> ?_⟩
  obtain ⟨y,h1,h2⟩:=FL h j j (by simp [hj])
  rw [h1];exact h2
 ·cases h
theorem GB{M:TypeId->Val->List SV}{gs:List Field}{cs:List Value}(htt: ∀t ti,tt t=some ti->eL P t ti):
  ∀(fs:List (Nat×TypeId)) (o k n:Nat),rY tt o fs=some n->o<=cs.length->n<=cs.length->
   (∀(i off:Nat) (t:TypeId),fs[i]? =some (off,t)-> ∃V,aQ (fun _=>none) (fun _=>False) w (M t V) ((cs.drop off).take (P.cellsOf t)))->
   ∃F:Nat->Val,∀V:Val,(∀i,k<=i->V.sub i=F i)->aQ (fun _=>none) (fun _=>False) w (mkF M k fs V) ((cs.drop o).take (n - o))/\o<=n
 | [],o,k,n,hc,ho,hn,_=>by
  simp only [rY,Option.some.injEq] at hc
  subst hc
  exact ⟨fun _=>Val.zero,fun V _=>⟨by simp [mkF,aQ],Nat.le_refl _⟩⟩
 |(off,t)::fs,o,k,n,hc,ho,hn,hf=>by
  simp only [rY] at hc
  split at hc
  ·rename_i ti ht
   cases hb:Nat.beq off o with
   |false=>rw [hb] at hc;cases hc
   |true=>
    rw [hb] at hc
    simp only [cond_true] at hc
    have hoff:=Nat.eq_of_beq_eq_true hb
    subst hoff
    have hsz:=nD (htt _ _ ht)
    obtain ⟨V0,hV0⟩:=hf 0 off t (by simp)
    have hmono: ∀(fs:List (Nat×TypeId)) (o n:Nat),rY tt o fs=some n->o<=n:=by
     intro fs
     induction fs with
     |nil=>intro o n h;simp only [rY,Option.some.injEq] at h;omega
     |cons p fs ih=>
      intro o n h
      obtain ⟨off',t'⟩:=p
      simp only [rY] at h
      split at h
      ·rename_i ti' _
       cases hb':Nat.beq off' o with
       |false=>rw [hb'] at h;cases h
       |true=>rw [hb'] at h;have:=ih _ _ h;omega
      ·cases h
    have hle:=hmono _ _ _ hc
    obtain ⟨F,hF⟩:=GB (M:=M) (gs:=gs) htt fs (off+ti.size) (k+1) n hc (by omega) hn (fun i off' t' h=>hf (i+1) off' t' (by simpa using h))
    refine ⟨fun i=>if i=k then V0 else F i,fun V hV=>⟨?_,by omega⟩⟩
    obtain ⟨h1,_⟩:=hF V fun i hi=>(hV i (by omega)).trans (if_neg (by omega))
    simp only [mkF]
    rw [(hV k (Nat.le_refl _)).trans (if_pos rfl)]
    have hsplit:(cs.drop off).take (n - off)=(cs.drop off).take ti.size++(cs.drop (off+ti.size)).take (n - (off+ti.size)):=by
     rw [show n - off=ti.size+(n - (off+ti.size)) by omega,List.take_add,List.drop_drop]
    rw [hsplit]
    rw [hsz] at hV0
    exact eN hV0 h1
  ·cases hc
theorem J7{M:Val->List SV}{cs:List Value}{size:Nat}: ∀(n k:Nat),(k+n)*size<=cs.length->
   (∀i,k<=i->i<k+n-> ∃V,aQ (fun _=>none) (fun _=>False) w (M V) ((cs.drop (i*size)).take size))->
   ∃F:Nat->Val,∀V:Val,(∀i,k<=i->V.sub i=F i)->aQ (fun _=>none) (fun _=>False) w (mkN M k n V) ((cs.drop (k*size)).take (n*size))
 |0,k,_,_=>⟨fun _=>Val.zero,fun V _=>by simp [mkN,aQ]⟩
 |n+1,k,hle,hf=>by
  obtain ⟨V0,hV0⟩:=hf k (Nat.le_refl _) (by omega)
  obtain ⟨F,hF⟩:=J7 (M:=M) (cs:=cs) (size:=size) n (k+1) (by rw [show k+1+n=k+(n+1) by omega];exact hle) (fun i h1 h2=>hf i (by omega) (by omega))
  refine ⟨fun i=>if i=k then V0 else F i,fun V hV=> ?_⟩
  have h1:=hF V fun i hi=>(hV i (by omega)).trans (if_neg (by omega))
  simp only [mkN]
  rw [(hV k (Nat.le_refl _)).trans (if_pos rfl)]
  have hsplit:(cs.drop (k*size)).take ((n+1)*size)=(cs.drop (k*size)).take size++(cs.drop ((k+1)*size)).take (n*size):=by
   rw [show (n+1)*size=size+n*size by rw [Nat.succ_mul,Nat.add_comm],List.take_add,List.drop_drop,show k*size+size=(k+1)*size by rw [Nat.succ_mul]]
  rw [hsplit]
  exact eN hV0 h1
theorem zY(htt: ∀t ti,tt t=some ti->eL P t ti): ∀(d:Nat) (t:TypeId) (fuel:Nat) (cs:List Value) (x:DataW H×List MemPlace),
  yX tt d t=true->DataW.trod enc P w 0 (fun _=>true) true fuel t cs=some x->
  ∃V,aQ (fun _=>none) (fun _=>False) w (mk tt d t V) cs
 |0,t,fuel,cs,x,hp,h=>by cases hp
 |d+1,t,fuel,cs,x,hp,h=>by
  simp only [yX] at hp
  split at hp
  ·cases hp
  ·rename_i ti ht
   have hti:=htt _ _ ht
   cases hk:ti.kind<;>simp only [hk] at hp<;>try (cases hp;done)
   case bool=>
    obtain ⟨b,rfl,_⟩:=DataW.trod_bool (tS hti hk) h
    exact ⟨Val.join 0 b ByteArray.empty 0 fun _=>Val.zero,by simp only [mk,ht,hk];exact ⟨_,_,rfl,rfl,rfl⟩⟩
   case int k=>
    obtain ⟨n,rfl,_,hw⟩:=DataW.trod_int (pI hti hk) h
    simp only [Lit.wf,Bool.and_eq_true,decide_eq_true_eq] at hw
    exact ⟨Val.join n false ByteArray.empty 0 fun _=>Val.zero,by simp only [mk,ht,hk];exact ⟨_,_,rfl,⟨rfl,hw⟩,rfl⟩⟩
   case string=>
    obtain ⟨s,rfl,_,hs⟩:=DataW.trod_string (eM hti hk) h
    have hs':s.size<9223372036854775808:=by unfold maxLen at hs;omega
    exact ⟨Val.join 0 false s 0 fun _=>Val.zero,by simp only [mk,ht,hk];exact ⟨_,_,rfl,⟨rfl,hs'⟩,rfl⟩⟩
   case slice e=>
    simp only [Bool.and_eq_true] at hp
    obtain ⟨hpe,hsz⟩:=hp
    split at hsz
    ·rename_i te hte
     have hsz':0<te.size:=by simpa using hsz
     rcases DataW.trod_slice (cA hti hk) h with ⟨rfl,_⟩|⟨a,len,cap,elems,rest,n,rfl,rfl,_,_,hlc,hcm,hel,hread,_,_⟩
     ·refine ⟨Val.join 0 false ByteArray.empty 0 fun _=>Val.zero, ?_⟩
      simp only [mk,ht,hk,hte]
      exact ⟨_,_,rfl,⟨none,0,rfl,⟨by show (0:Nat)<=0;decide,by show (0:Nat)<_;decide,fun _=>rfl⟩,fun h0=>absurd h0 (Nat.lt_irrefl 0)⟩,rfl⟩
     ·have hcells:=nD (htt _ _ hte)
      have hone: ∀i,i<len-> ∃V,∃cs,w.cells? 0 (a.add (i*te.size)) te.size=some cs/\aQ (fun _=>none) (fun _=>False) w (mk tt d e V) cs:=by
       intro i hi
       have h1:=hread i hi
       rw [hcells] at h1
       rw [List.getElem?_eq_getElem (by omega)] at h1
       obtain ⟨cs',h2,h3⟩:=Option.bind_eq_some_iff.1 h1
       obtain ⟨V,hV⟩:=zY htt d e n cs' _ hpe h3
       exact ⟨V,cs',h2,hV⟩
      have hex: ∃F:Nat->Val,∀i,i<len-> ∃cs,w.cells? 0 (a.add (i*te.size)) te.size=some cs/\aQ (fun _=>none) (fun _=>False) w (mk tt d e (F i)) cs:=by
       classical
       exact ⟨fun i=>if h:i<len then (hone i h).choose else Val.zero,fun i hi=>by simp only [hi,dif_pos];exact (hone i hi).choose_spec⟩
      obtain ⟨F,hF⟩:=hex
      refine ⟨Val.join 0 false ByteArray.empty len F, ?_⟩
      simp only [mk,ht,hk,hte]
      refine ⟨_,_,rfl,⟨some a,cap,rfl, ?_,fun h0=> ?_⟩,rfl⟩
      ·refine ⟨hlc, ?_,fun he=>by cases he⟩
       show len<_
       unfold maxLen at hcm;omega
      ·have h0':0<len:=h0
       obtain ⟨b,off,sp⟩:=a
       obtain ⟨cs0,h1,_⟩:=hF 0 h0'
       obtain ⟨h2,h3⟩:=FB h1
       have h4:=h3 0 hsz'
       have hadd:(Addr.mk b off sp).add (0*te.size)=⟨b,off,sp⟩:=by simp [Addr.add]
       have hadd0:(Addr.mk b off sp).add 0=⟨b,off,sp⟩:=by simp [Addr.add]
       rw [hadd,hadd0,List.getElem?_eq_getElem (by omega)] at h4
       have hsp:sp=none:=by
        unfold World.cell? at h4
        cases sp with
        |none=>rfl
        |some s=>
         simp only at h4
         split at h4
         ·simp at h4
         ·cases h4
       subst hsp
       refine ⟨b,off,rfl,uO h4,fun h=>h,fun i hi=> ?_⟩
       obtain ⟨cs',h5,h6⟩:=hF i hi
       obtain ⟨h7,h8⟩:=FB h5
       have h6':aQ (fun _=>none) (fun _=>False) w (mk tt d e ((Val.join 0 false ByteArray.empty len F).sub i)) cs':=h6
       refine AX h6' fun j c hj=> ?_
       have hj':j<te.size:=by have:=(List.getElem?_eq_some_iff.1 hj).1;omega
       have:=h8 j hj'
       rw [cT,cT] at this
       rw [this];exact hj
    ·cases hsz
   case struct fs=>
    simp only [Bool.and_eq_true,List.all_eq_true] at hp
    obtain ⟨hpf,hc⟩:=hp
    split at hc
    ·rename_i n hn
     have hn':=Nat.eq_of_beq_eq_true hc
     obtain ⟨gs,hgs,hfs,_⟩:=iL hti hk
     obtain ⟨xs,m,rfl,_,hlen,hxs,hread⟩:=DataW.trod_struct hgs h
     have hcl:=nD hti
     have hfield: ∀(i off:Nat) (t':TypeId),fs[i]? =some (off,t')-> ∃V,aQ (fun _=>none) (fun _=>False) w (mk tt d t' V) ((cs.drop off).take (P.cellsOf t')):=by
      intro i off t' hi
      rw [hfs,List.getElem?_map] at hi
      cases hg:gs.toList[i]? with
      |none=>rw [hg] at hi;cases hi
      |some g=>
       rw [hg] at hi
       simp only [Option.map_some,Option.some.injEq,Prod.mk.injEq] at hi
       obtain ⟨rfl,rfl⟩:=hi
       have hr:=hread i g (by simpa using hg)
       have hlt:i<xs.length:=by have:=(List.getElem?_eq_some_iff.1 hg).1;simp at this;omega
       rw [List.getElem?_eq_getElem hlt] at hr
       exact zY htt d g.type m _ _ (hpf (g.offset,g.type) (by rw [hfs];exact List.mem_map.2 ⟨g,List.mem_of_getElem? hg,rfl⟩)) hr
     obtain ⟨F,hF⟩:=GB (M:=mk tt d) (gs:=gs.toList) htt fs 0 0 n hn (Nat.zero_le _) (by omega) hfield
     refine ⟨Val.join 0 false ByteArray.empty 0 F, ?_⟩
     obtain ⟨h1,_⟩:=hF (Val.join 0 false ByteArray.empty 0 F) fun i _=>rfl
     simp only [mk,ht,hk]
     rw [List.drop_zero,Nat.sub_zero,List.take_of_length_le (by omega)] at h1
     exact h1
    ·cases hc
   case array n e=>
    simp only [Bool.and_eq_true] at hp
    obtain ⟨hpe,hsz⟩:=hp
    split at hsz
    ·rename_i te hte
     have hsz':=Nat.eq_of_beq_eq_true hsz
     obtain ⟨xs,m,rfl,_,hlen,hxs,hread⟩:=DataW.trod_array (gC hti hk) h
     have hcl:=nD hti
     have hcells:=nD (htt _ _ hte)
     obtain ⟨F,hF⟩:=J7 (w:=w) (M:=mk tt d e) (cs:=cs) (size:=te.size) n 0 (by rw [Nat.zero_add];omega) (fun i _ hi=>by
      have hr:=hread i (by omega)
      rw [List.getElem?_eq_getElem (by omega),hcells] at hr
      exact zY htt d e m _ _ hpe hr)
     refine ⟨Val.join 0 false ByteArray.empty 0 F, ?_⟩
     have h1:=hF (Val.join 0 false ByteArray.empty 0 F) fun i _=>rfl
     simp only [mk,ht,hk]
     rw [Nat.zero_mul,List.drop_zero,List.take_of_length_le (by omega)] at h1
     exact h1
    ·cases hsz
end
end Go.Se
namespace Go.Se
open Go.RowKit Go.WideShapes Go.ChangeShapes
variable {P:Program}
section
variable {H:Type} {enc:TypeId×Value->H}
theorem EE {f:Func} {s:ChangeSpec} {apart fresh handsOn again:Bool} {W W':World} {args:Array Value} {v:Value} {ds gs:List (DataW H)} {before pa pv:List MemPlace}
  (hW:DataW.Whole enc P f.params.toList s.vars apart W args.toList ds gs before)
  (hres: ∀(b:Nat) (sp:Nat->Bool) (hd:Bool),DataW.TrodAll enc P W' b sp hd f.resultTypes.toList (v.resultList f.resultTypes.size) (s.fn H (ds++gs)).results [])
  (hargs: ∀sp:Nat->Bool,(∀p∈before,sp p.block=true)->DataW.TrodAll enc P W' 0 sp true f.params.toList args.toList (s.fn H (ds++gs)).args pa)
  (hvars: ∀sp:Nat->Bool,(∀p∈before,sp p.block=true)->DataW.TrodVars enc P W' sp s.vars (s.fn H (ds++gs)).vars pv)
  (hps:before=pa++pv) (hb:Below W.heap.size W W')
  (hok: ∀(j:Nat) (t:TypeId) (r:Value),f.resultTypes[j]? =some t->(v.resultList f.resultTypes.size)[j]? =some r->Value.okWide P W' .any 0 t r):
  s.post enc P f apart fresh handsOn again W args v W':=by
 have hlt: ∀p∈before,p.block<W.heap.size:=fun p hp=>hW.lt p hp
 have hold: ∀p∈before,(fun b=>decide (b<W.heap.size)) p.block=true:=fun p hp=>by simpa using hlt p hp
 refine ⟨ds,gs,before,[],pa,pv,hW,hres _ _ _,hargs _ hold,hvars _ hold,World.keptBut_mono (fun p hp=>⟨hp, ?_⟩) (hb.frame (· ∈before)),fun _=> ?_⟩
 ·rw [hps,List.mem_append] at hp
  exact Or.inr hp
 ·obtain ⟨_,_,_,_,_,hz,hn⟩:=hW
  refine ⟨hok,_,_,([]++pa)++pv,⟨[]++pa,pv,trodAll_append (hargs _ (fun _ _=>rfl)) (hres _ _ _),hvars _ (fun _ _=>rfl),rfl, ?_, ?_⟩, ?_⟩
  ·intro b off hp
   have hin:MemPlace.cell b off∈before:=by rw [hps];simpa using hp
   rw [hb.frozen (hlt _ hin)]
   exact hz b off hin
  ·intro ha
   have:=hn ha
   rw [hps] at this
   simpa using this
  ·intro p hp _
   rw [hps]
   simpa using hp
end
def aAa(tt:TypeId->Option TI)(d:Nat)(t:TypeId)(V:Val):SV:=
 match tt t with
 |some ti=>match ti.kind with
  | .struct _=> .agg (mk tt d t V)
  | .array _ _=> .agg (mk tt d t V)
  |_=>match mk tt d t V with
   | [x]=>x
   |_=> .junk
 |none=> .junk
def BN(tt:TypeId->Option TI)(d:Nat):Nat->List TypeId->Val->List SV
 |_,[],_=>[]
 |i,t::ts,V=>aAa tt d t (V.sub i)::BN tt d (i+1) ts V
section
variable {H:Type} {enc:TypeId×Value->H} {w:World} {tt:TypeId->Option TI}
theorem aDW (htt: ∀t ti,tt t=some ti->eL P t ti) {d:Nat} {t:TypeId} {v:Value} {x:DataW H} {ps:List MemPlace} {base:Nat}
  (hp:yX tt d t=true) (hv:Value.okWide P w .any base t v) (h:DataW.Trod enc P w 0 (fun _=>true) true t v x ps):
  ∃V,rel (fun _=>none) (fun _=>False) w (aAa tt d t V) v:=by
 obtain ⟨fuel,hf⟩:=h
 obtain ⟨V,hV⟩:=zY htt d t fuel _ _ hp hf
 refine ⟨V, ?_⟩
 unfold aAa
 cases ht:tt t with
 |none=>trivial
 |some ti=>
  have hti:=htt _ _ ht
  obtain ⟨ds,hd,hk⟩:=hti.desc
  have hagg:(∃cs,v= .agg cs)->rel (fun _=>none) (fun _=>False) w (.agg (mk tt d t V)) v:=by
   rintro ⟨cs,rfl⟩
   exact ⟨cs,rfl,hV⟩
  have hone:v.cells= #[v]->rel (fun _=>none) (fun _=>False) w (match mk tt d t V with| [x]=>x|_=>SV.junk) v:=by
   intro hc
   rw [hc] at hV
   split
   ·rename_i y hy
    rw [hy] at hV
    obtain ⟨_,_,h1,h2,h3⟩:=hV
    simp at h1
    obtain ⟨rfl,rfl⟩:=h1
    exact h2
   ·trivial
  have hcells:(∀cs,v≠ .agg cs)->v.cells= #[v]:=by
   intro h
   cases v<;>first|rfl|exact absurd rfl (h _)
  cases hkk:ti.kind<;>(simp only [hkk])
  case struct fs=>
   obtain ⟨gs,hgs,_⟩:=iL hti hkk
   apply hagg
   unfold Value.okWide at hv
   rw [hgs] at hv
   obtain ⟨cs,h1,_⟩:=hv
   exact ⟨cs,h1⟩
  case array n e=>
   have hgs:=gC hti hkk
   apply hagg
   unfold Value.okWide at hv
   rw [hgs] at hv
   obtain ⟨cs,h1,_⟩:=hv
   exact ⟨cs,h1⟩
  all_goals
   refine hone (hcells ?_)
   rintro cs rfl
   rw [hkk] at hk
   unfold Value.okWide at hv
   rw [hd] at hv
   cases ds<;>simp only [jA,Option.some.injEq,reduceCtorEq] at hk<;>(try simp [Cell.okWide,Cell.ok,hd] at hv)
   all_goals (rename_i fsx;cases hb:fsx.toList.all (fun f=>f.name != "_")<;>rw [hb] at hk<;>simp at hk)
theorem RS(htt: ∀t ti,tt t=some ti->eL P t ti){d:Nat}{base:Nat}: ∀(ts:List TypeId) (vs:List Value) (ds:List (DataW H)) (ps:List MemPlace) (k:Nat),
  ts.all (yX tt d)=true->(∀(j:Nat) t v,ts[j]? =some t->vs[j]? =some v->Value.okWide P w .any base t v)->DataW.TrodAll enc P w 0 (fun _=>true) true ts vs ds ps->
  ∃F:Nat->Val,∀V:Val,(∀i,k<=i->V.sub i=F i)->aQ (fun _=>none) (fun _=>False) w (BN tt d k ts V) vs
 | [],vs,ds,ps,k,_,_,h=>by
  refine ⟨fun _=>Val.zero,fun V _=> ?_⟩
  cases vs with
  |nil=>rfl
  |cons v vs=>cases ds<;>exact h.elim
 |t::ts,[],ds,ps,k,_,_,h=>by cases ds<;>exact h.elim
 |t::ts,v::vs,[],ps,k,_,_,h=>h.elim
 |t::ts,v::vs,x::ds,ps,k,hp,hv,h=>by
  obtain ⟨p,q,h1,h2,_⟩:=h
  rw [List.all_cons,Bool.and_eq_true] at hp
  obtain ⟨V0,hV0⟩:=aDW htt hp.1 (hv 0 t v rfl rfl) h1
  obtain ⟨F,hF⟩:=RS htt ts vs ds q (k+1) hp.2 (fun j t' v' h h'=>hv (j+1) t' v' (by simpa using h) (by simpa using h')) h2
  refine ⟨fun i=>if i=k then V0 else F i,fun V hV=> ?_⟩
  have h3:=hF V fun i hi=>(hV i (by omega)).trans (if_neg (by omega))
  refine ⟨v,vs,rfl, ?_,h3⟩
  rw [(hV k (Nat.le_refl _)).trans (if_pos rfl)]
  exact hV0
theorem DX{W W':World}(h:aX (fun _=>False) W W'):Below W.heap.size W W':=
 ⟨h.os,h.tape,h.output,h.size,fun k hk=>h.same k hk id⟩
theorem uI(hl:laidOutB P=true){W W':World}(hb:Below W.heap.size W W'): ∀(ts:List TypeId) (vs:List Value) (ds:List (DataW H)) (ps:List MemPlace),
  ts.all (fun t=>P.readableRec t&&decide (t<P.types.size))=true->DataW.TrodAll enc P W 0 (fun _=>true) true ts vs ds ps->(∀p∈ps,p.block<W.heap.size)->
  ∀sp:Nat->Bool,(∀p∈ps,sp p.block=true)->DataW.TrodAll enc P W' 0 sp true ts vs ds ps
 | [],[],[],ps,_,h,_,_,_=>h
 | [],_::_,_,ps,_,h,_,_,_=>h.elim
 | [],[],_::_,ps,_,h,_,_,_=>h.elim
 |t::ts,[],ds,ps,_,h,_,_,_=>by cases ds<;>exact h.elim
 |t::ts,v::vs,[],ps,_,h,_,_,_=>h.elim
 |t::ts,v::vs,x::ds,ps,hr,h,hlt,sp,hsp=>by
  obtain ⟨p,q,h1,h2,rfl⟩:=h
  rw [List.all_cons,Bool.and_eq_true,Bool.and_eq_true,decide_eq_true_eq] at hr
  refine ⟨p,q, ?_,uI hl hb ts vs ds q hr.2 h2 (fun y hy=>hlt y (List.mem_append_right _ hy)) sp (fun y hy=>hsp y (List.mem_append_right _ hy)),rfl⟩
  exact WideElems.Trod_stays hl hr.1.1 hr.1.2 h1 (fun y hy=>hb.same (hlt y (List.mem_append_left _ hy))) (fun y hy=>hsp y (List.mem_append_left _ hy))
theorem Y1 {C:Checked} (hl:laidOutB C.prog=true) (htt: ∀t ti,tt t=some ti->eL C.prog t ti) {d:Nat} {k:FuncId} {fn:Func} (hfn:C.prog.funcs[k]? =some fn) (hbody:fn.body.isNone=false)
  (hpl:fn.params.toList.all (yX tt d)=true) (hrd:fn.params.toList.all (fun t=>C.prog.readableRec t&&decide (t<C.prog.types.size))=true)
  {tb:TypeId} (hres:fn.resultTypes= #[tb]) (hbool:C.prog.underlying tb=some .bool)
  {s:ChangeSpec} (hvars:s.vars=[]) (hspec: ∀ds:List (DataW H),ds.length=fn.params.size->s.fn H ds={results:=[.lit (.bool true)],args:=ds})
  {Φ:Val->KC->Prop} (hsat: ∀V,Sat C.prog k (BN tt d 0 fn.params.toList V) [] (Φ V))
  (hlaw: ∀V,Φ V fun v _ _=>v= .bool true) {apart fresh handsOn again:Bool}
  (W:World) (base:Nat) (args:Array Value) (ds gs:List (DataW H)) (before:List MemPlace)
  (hinv: ∀g v,wU C.prog=some (g,v)->W.cell? ⟨g,0,none⟩=some v)
  (hval: ∀(j:Nat) t v,fn.params[j]? =some t->args[j]? =some v->Value.okWide C.prog W .any base t v)
  (hW:DataW.Whole enc C.prog fn.params.toList s.vars apart W args.toList ds gs before):
  Calls C.prog k args W fun e W'=> ∃v,e= .returned v/\s.post enc C.prog fn apart fresh handsOn again W args v W':=by
 have hW':=hW
 obtain ⟨p,q,hA,hV,rfl,hz,hn⟩:=hW
 rw [hvars] at hV
 obtain ⟨rfl,rfl⟩:=trodVars_none hV
 obtain ⟨F,hF⟩:=RS htt _ _ _ _ 0 hpl (fun j t v h h'=>hval j t v (by simpa using h) (by simpa using h')) hA
 have hargs:=hF (Val.join 0 false ByteArray.empty 0 F) fun i _=>rfl
 obtain ⟨v,σ',dd,hv,hcall⟩:=hsat (Val.join 0 false ByteArray.empty 0 F) _ (hlaw _)
 subst hv
 have hrun:=hcall (fun _=>none) (fun _=>False) W args hargs (fun p hp=>absurd hp (Nat.not_lt_zero _)) (fun i j b h=>by cases h) ⟨fun p b h=>(by cases h),fun g v hg=>⟨fun h=>h,hinv g v hg⟩⟩
 have hlt: ∀x∈p,x.block<W.heap.size:=fun x hx=>hW'.lt x (by simpa using hx)
 have hlen: ∀(ts:List TypeId) (vs:List Value) (ds:List (DataW H)) (ps:List MemPlace),DataW.TrodAll enc C.prog W 0 (fun _=>true) true ts vs ds ps->ds.length=ts.length:=by
  intro ts
  induction ts with
  |nil=>intro vs ds ps h;cases vs<;>cases ds<;>first|rfl|exact h.elim
  |cons t ts ih=>
   intro vs ds ps h
   cases vs with
   |nil=>cases ds<;>exact h.elim
   |cons v vs=>cases ds with
    |nil=>exact h.elim
    |cons x ds=>obtain ⟨_,_,_,h2,_⟩:=h;simp [ih _ _ _ h2]
 have hds:ds.length=fn.params.size:=by rw [hlen _ _ _ _ hA];simp
 rcases hrun with ⟨fn',hfn',_,_,hc⟩|⟨x,w',hx,_⟩
 ·refine hc.mono fun e W' ⟨x,he,ρ',T',hd⟩=>⟨x,he, ?_⟩
  have hx:x= .bool true:=hd.val
  subst hx
  have hb:Below W.heap.size W W':=DX (hd.grow.mono fun b _ ⟨_,_,h⟩=>by cases h)
  have hsp:=hspec ds hds
  refine EE (pa:=p) (pv:=[]) hW' ?_ ?_ ?_ (by simp) hb (ok_one hres rfl (okWide_bool_mk hbool true))
  ·intro b sp hd
   rw [List.append_nil,hsp,hres]
   exact trodAll_mk1 (shut_bool hbool true)
  ·intro sp hs
   rw [List.append_nil,hsp]
   exact uI hl hb _ _ _ _ hrd hA hlt sp (fun y hy=>hs y (by simpa using hy))
  ·intro sp hs
   rw [List.append_nil,hsp,hvars]
   rfl
 ·exfalso
  have hc:(callFunc k args).run C.prog W=(if fn.name== "runtime.NumGoroutine" then (pure .numGoroutine:Sem Next) else pure (.enter k args)).run C.prog W:=by
   unfold callFunc
   simp only [Sem.run_bind,run_program,Result.andThen_ok,hfn,hbody,Bool.false_eq_true,if_false]
  rw [hc] at hx
  split at hx<;>cases hx
end
end Go.Se
namespace Go.Se
def pQ :Code->List Nat->Code
 |c,[]=>c
 | .seq a _,0::l=>pQ a l
 | .seq _ b,_::l=>pQ b l
 | .block _ a,_::l=>pQ a l
 | .loop a,_::l=>pQ a l
 | .cond _ a _,0::l=>pQ a l
 | .cond _ _ b,_::l=>pQ b l
 |c,_=>c
def GS(fn:Func):Code:=match fn.body with
 |some c=>c
 |none=> .skip
def P0(env:Env)(W:Nat->St->Option St):Nat->Code->List Nat->(Ex->St->Prop)->(Ex->St->Prop)
 |_,_,[],K=>K
 |blk,.seq a b,0::l,K=>P0 env W blk a l (fun e s=>match e with
  | .normal=>dN env W blk b K s
  |e=>K e s)
 |blk,.seq _ b,_::l,K=>P0 env W blk b l K
 |_,.block id a,_::l,K=>P0 env W id a l (fun e s=>match e with
  | .exit i=>bif Nat.beq i id then K .normal s else K (.exit i) s
  |e=>K e s)
 |blk,.cond _ a _,0::l,K=>P0 env W blk a l K
 |blk,.cond _ _ b,_::l,K=>P0 env W blk b l K
 |_,_,_,K=>K
def aGq(env:Env)(fn:Func)(n0:Nat)(K:KC):Ex->St->Prop:=fun e s=>match e with
 | .exit _=>False
 |_=>IB env n0 fn.results.toList K s
def xV(ρ:aG)(m:Nat):aG:=fun i=>if i<m then ρ i else none
mutual
theorem tI{ρ:aG}{T:Nat->Prop}{w:World}{m:Nat}: ∀(a:SV) (v:Value),(∀i∈ids a,i<m)->rel ρ T w a v->rel (xV ρ m) T w a v
 | .junk,_,_,_=>trivial
 | .int _ _,_,_,h=>h
 | .bool _,_,_,h=>h
 | .str _,_,_,h=>h
 | .nilp,_,_,h=>h
 | .ptr id off,v,hs,⟨b,h1,h2⟩=>⟨b,by unfold xV;rw [if_pos (hs id (by simp [ids]))];exact h1,h2⟩
 | .yld id,v,hs,⟨b,h1,h2⟩=>⟨b,by unfold xV;rw [if_pos (hs id (by simp [ids]))];exact h1,h2⟩
 | .rptr _,_,_,h=>h
 | .fn g x y,v,hs,⟨a,c,h1,h2,h3⟩=>⟨a,c,h1,jF x _ (fun i hi=>hs i (by simp [ids,hi])) h2,jF y _ (fun i hi=>hs i (by simp [ids,hi])) h3⟩
 | .nilfn,_,_,h=>h
 | .agg cs,v,hs,⟨a,h1,h2⟩=>⟨a,h1,jF cs _ (fun i hi=>hs i (by simpa [ids] using hi)) h2⟩
 | .tup cs,v,hs,⟨a,h1,h2⟩=>⟨a,h1,jF cs _ (fun i hi=>hs i (by simpa [ids] using hi)) h2⟩
 | .nils,_,_,h=>h
 | .emp,_,_,h=>h
 | .arr id off len cap,v,hs,⟨⟨b,h1,h2⟩,h3⟩=>⟨⟨b,by unfold xV;rw [if_pos (hs id (by simp [ids]))];exact h1,h2⟩,h3⟩
 | .eptr id i st o,v,hs,⟨b,h1,h2⟩=>⟨b,by unfold xV;rw [if_pos (hs id (by simp [ids]))];exact h1,h2⟩
 | .own id off st len,v,hs,⟨b,c,h1,h2⟩=>⟨b,c,by unfold xV;rw [if_pos (hs id (by simp [ids]))];exact h1,h2⟩
 | .ro _ _ _,_,_,h=>h
 | .nilI,_,_,h=>h
 | .iface t x,v,hs,⟨y,h1,h2⟩=>⟨y,h1,tI x y (fun i hi=>hs i (by simpa [ids] using hi)) h2⟩
theorem jF{ρ:aG}{T:Nat->Prop}{w:World}{m:Nat}: ∀(l:List SV) (r:List Value),(∀i∈ids.idsL l,i<m)->aQ ρ T w l r->aQ (xV ρ m) T w l r
 | [],_,_,h=>h
 |a::l,_,hs,⟨v,r,h1,h2,h3⟩=>⟨v,r,h1,tI a v (fun i hi=>hs i (by simp [ids.idsL,hi])) h2,jF l r (fun i hi=>hs i (by simp [ids.idsL,hi])) h3⟩
end
theorem RC : ∀(l:kB) (t:Nat),∀i∈ids (get l t),i∈aBd l
 | [],t,i,h=>by simp [get,ids] at h
 |(u,v)::l,t,i,h=>by
  simp only [get] at h
  simp only [aBd,List.mem_append]
  cases hb:Nat.beq u t with
  |true=>rw [hb] at h;exact .inl h
  |false=>rw [hb] at h;exact .inr (RC l t i h)
theorem NM{ρ:aG}{T:Nat->Prop}{w:World}{m:Nat}{sb:SB}{b:Nat}(hs: ∀i∈IL sb,i<m)(h:eF ρ T w sb b):eF (xV ρ m) T w sb b:=by
 cases sb with
 |cells e cs=>obtain ⟨vs,h1,h2⟩:=h;exact ⟨vs,h1,jF _ _ hs h2⟩
 |lst e cs=>obtain ⟨vs,h1,x,r,h2,h3⟩:=h;exact ⟨vs,h1,x,r,h2,jF _ _ hs h3⟩
 |row e st len g=>exact h
 |loop tm nt ps as bd pend=>obtain ⟨r,h1,h2,h3,h4,h5,h6,h7⟩:=h;exact ⟨r,h1,h2,h3,h4,h5,h6,fun t=>tI _ _ (fun i hi=>hs i (RC tm t i hi)) (h7 t)⟩
 |iter s pos=>exact h
def below(m:Nat)(l:List Nat):Bool:=l.all fun i=>Nat.blt i m
theorem LF{m:Nat}{l:List Nat}(h:below m l=true): ∀i∈l,i<m:=fun i hi=>by simpa using List.all_eq_true.1 h i hi
def QE(l:kB)(m:Nat):kB->Prop
 | []=>True
 |(t,v)::r=>(get l t=v/\below m (ids v)=true)/\QE l m r
def C3(l:dB)(m:Nat):dB->Prop
 | []=>True
 |(_i,none)::r=>C3 l m r
 |(i,some sb)::r=>(aI l i=some sb/\Nat.blt i m=true/\below m (IL sb)=true)/\C3 l m r
theorem EV{l:kB}{m:Nat}: ∀{r:kB},QE l m r-> ∀t,get r t= .junk\/(get r t=get l t/\below m (ids (get r t))=true)
 | [],_,t=> .inl rfl
 |(u,v)::r,⟨⟨h1,h3⟩,h2⟩,t=>by
  simp only [get]
  cases hb:Nat.beq u t with
  |true=>rw [Nat.eq_of_beq_eq_true hb] at h1;exact .inr ⟨h1.symm,h3⟩
  |false=>exact EV h2 t
theorem lF{l:dB}{m:Nat}: ∀{r:dB},C3 l m r-> ∀t sb,aI r t=some sb->aI l t=some sb/\t<m/\below m (IL sb)=true
 | [],_,t,sb,h=>by simp [aI] at h
 |(u,none)::r,h2,t,sb,h=>by
  simp only [aI] at h
  cases hb:Nat.beq u t with
  |true=>rw [hb] at h;cases h
  |false=>rw [hb] at h;exact lF (r:=r) h2 t sb h
 |(u,some v)::r,⟨⟨h1,h3,h4⟩,h2⟩,t,sb,h=>by
  simp only [aI] at h
  cases hb:Nat.beq u t with
  |true=>
   rw [hb] at h
   simp only [cond_true,Option.some.injEq] at h
   subst h
   rw [Nat.eq_of_beq_eq_true hb] at h1 h3
   exact ⟨h1,by simpa using h3,h4⟩
  |false=>rw [hb] at h;exact lF h2 t sb h
structure eR where
 ts:List Nat
 bs:List Nat
 d:List Nat
 m:Nat
 mv:List (Nat×Nat):=[]
def CT(l:kB):List Nat->kB
 | []=>[]
 |t::r=>(t,get l t)::CT l r
def CL(l:dB):List Nat->dB
 | []=>[]
 |t::r=>(t,aI l t)::CL l r
def BH(m:Nat):kB->Bool
 | []=>true
 |(_,v)::r=>below m (ids v)&&BH m r
def xA(m:Nat):dB->Bool
 | []=>true
 |(_,none)::r=>xA m r
 |(i,some sb)::r=>Nat.blt i m&&below m (IL sb)&&xA m r
def WH(d:List Nat):List Nat->Bool
 | []=>true
 |p::r=>d.any (Nat.beq p)&&WH d r
def aBh :SV->Option Nat
 | .own i _ _ _=>some i
 | .ptr i _=>some i
 | .iface _ (.ptr i _)=>some i
 | .fn _ [] (.ptr i _::_)=>some i
 | .fn _ (.ptr i _::_) _=>some i
 |_=>none
def mvF(a b i:Nat):Option Nat:=bif Nat.beq i a then some b else bif Nat.beq i b then none else some i
def W9(t:SV)(s:dB):dB:=
 match t with
 | .own b 0 st len=>match aI s b with
  |some (.lst e cs)=>bif (ids.idsL cs).isEmpty&&Nat.beq cs.length (len*st) then (b,some (.row e st len (fun i=>cut cs (i*st) st)))::s else s
  |_=>s
 |_=>s
def BP(v:SV)(s:St):St:=⟨s.tmps,W9 v s.store,s.nxt,s.dirty,s.nt⟩
def YW(t:Nat)(s:St):St:=BP (get s.tmps t) s
def wY(f:Nat->Option Nat):dB->dB
 | []=>[]
 |(i,o)::r=>match f i with
  |some j=>(j,o.map (jO f))::wY f r
  |none=>wY f r
def yY(n0:Nat):List (Nat×Nat)->St->Option St
 | [],s=>some s
 |(t,b)::r,s=>match aBh (get s.tmps t) with
  |none=>yY n0 r s
  |some a=>bif Nat.beq a b then yY n0 r (YW t s) else
    bif Nat.ble n0 a&&Nat.ble n0 b then yY n0 r (YW t ⟨LG (mvF a b) s.tmps,wY (mvF a b) s.store,bif Nat.ble s.nxt b then b+1 else s.nxt,s.dirty,s.nt⟩) else none
def GI(s:dB):SV->List Nat->SV
 |v,[]=>v
 | .yld i,k::r=>match aI s i with
  |some (.loop tm _ _ _ _ _)=>GI s (get tm k) r
  |_=> .junk
 |v,k::r=>match aBh v with
  |some i=>match aI s i with
   |some (.cells _ cs)=>GI s (nth cs k) r
   |_=> .junk
  |none=> .junk
def vB(n0:Nat):List ((Nat×List Nat)×Nat)->St->Option St
 | [],s=>some s
 |((t,p),b)::r,s=>match aBh (GI s.store (get s.tmps t) p) with
  |none=>vB n0 r s
  |some a=>bif Nat.beq a b then vB n0 r (BP (GI s.store (get s.tmps t) p) s) else
    let s':St:=⟨LG (mvF a b) s.tmps,wY (mvF a b) s.store,bif Nat.ble s.nxt b then b+1 else s.nxt,bif Nat.ble n0 a then s.dirty else iS s.dirty [a],s.nt⟩
    bif Nat.ble n0 b&&(Nat.ble n0 a||(aI s.store a).isSome) then vB n0 r (BP (GI s'.store (get s'.tmps t) p) s') else none
def sD(n0:Nat)(R:eR)(s:St):Option St:=
 bif Nat.ble n0 R.m&&WH R.d s.dirty&&BH R.m (CT s.tmps R.ts)&&xA R.m (CL s.store R.bs)
 then some ⟨CT s.tmps R.ts,CL s.store R.bs,R.m,R.d,s.nt⟩ else none
def aB(R:List (Nat×eR))(n0 blk:Nat)(s:St):Option St:=
 match R with
 | []=>some s
 |(b,k)::r=>bif Nat.beq b blk then (match yY n0 k.mv s with
   |some s=>sD n0 k s
   |none=>none) else aB r n0 blk s
def bZ(R:List (Nat×eR×List ((Nat×List Nat)×Nat)))(n0 blk:Nat)(s:St):Option St:=
 match R with
 | []=>some s
 |(b,k,m)::r=>bif Nat.beq b blk then (match yY n0 k.mv s with
   |some s=>match vB n0 m s with
    |some s=>sD n0 k s
    |none=>none
   |none=>none) else bZ r n0 blk s
theorem LE{l:kB}{m:Nat}: ∀{ts:List Nat},BH m (CT l ts)=true->QE l m (CT l ts)
 | [],_=>trivial
 |t::r,h=>by
  simp only [CT,BH,Bool.and_eq_true] at h
  exact ⟨⟨rfl,h.1⟩,LE h.2⟩
theorem CX{l:dB}{m:Nat}: ∀{ts:List Nat},xA m (CL l ts)=true->C3 l m (CL l ts)
 | [],_=>trivial
 |t::r,h=>by
  simp only [CL] at h|-
  cases hl:aI l t with
  |none=>rw [hl] at h;exact CX (ts:=r) h
  |some sb=>
   rw [hl] at h
   simp only [xA,Bool.and_eq_true] at h
   exact ⟨⟨hl,h.1.1,h.1.2⟩,CX h.2⟩
theorem RW{d:List Nat}: ∀{l:List Nat},WH d l=true-> ∀p,p∈l->p∈d
 | [],_,p,hp=>nomatch hp
 |q::r,h,p,hp=>by
  simp only [WH,Bool.and_eq_true] at h
  rcases List.mem_cons.1 hp with rfl|hp
  ·exact jQ.1 h.1
  ·exact RW h.2 p hp
def D0(P:Program)(n:Nat)(s s':St):Prop:= ∀(B:kG P) (a:Act) (w:World),B.n=n->Now B s a w->Now B s' a w
theorem aBQ {P:Program} {n:Nat} {s s':St} (hn0:n<=s'.nxt) (hd: ∀p,p∈s.dirty->p∈s'.dirty) (ht:s'.nt=s.nt) (htm:QE s.tmps s'.nxt s'.tmps)
  (hst:C3 s.store s'.nxt s'.store):D0 P n s s':=by
 rintro B a w rfl ⟨h1,ρ,T,h⟩
 refine ⟨hn0,xV ρ s'.nxt,T, ?_⟩
 have hcut: ∀{i b},xV ρ s'.nxt i=some b->i<s'.nxt/\ρ i=some b:=by
  intro i b hi
  unfold xV at hi
  split at hi
  ·rename_i hlt;exact ⟨hlt,hi⟩
  ·cases hi
 have hnone: ∀q,aI s.store q=none->aI s'.store q=none:=by
  intro q hq
  cases hl:aI s'.store q with
  |none=>rfl
  |some sb=>rw [(lF hst q sb hl).1] at hq;cases hq
 have hsome: ∀q,(aI s'.store q).isSome->(aI s.store q).isSome:=by
  intro q hq
  obtain ⟨sb,hsb⟩:=Option.isSome_iff_exists.1 hq
  rw [(lF hst q sb hsb).1];rfl
 exact {
  defers:=h.defers
  size:=by rw [ht];exact h.size
  tmps:=fun t=>by
   rcases EV htm t with e|⟨e,hb⟩
   ·rw [e];trivial
   ·exact tI _ _ (LF hb) (by rw [e];exact h.tmps t)
  store:=fun id sb hid=>by
   obtain ⟨e,hlt,hb⟩:=lF hst id sb hid
   obtain ⟨_,b,b1,b2,b3⟩:=h.store id sb e
   exact ⟨hlt,b,by unfold xV;rw [if_pos hlt];exact b1,b2,NM (LF hb) b3⟩
  names:=fun id b hid=>⟨(hcut hid).1,(h.names id b (hcut hid).2).2⟩
  inj:=fun i j b hi hj h1 h2=>h.inj i j b (hsome i hi) (hsome j hj) (hcut h1).2 (hcut h2).2
  base:=fun id hid=>Nat.lt_of_lt_of_le hid hn0
  full:=h.full
  grow:=h.grow.mono fun b _ ⟨p,p1,p2⟩=>⟨p,hd p p1,p2⟩
  old:=fun p b hp=>⟨(h.old p b hp).1,by unfold xV;rw [if_pos (Nat.lt_of_lt_of_le (h.old p b hp).1 hn0)];exact (h.old p b hp).2⟩
  tback:=h.tback
  tkeep:=fun b hb hT=>(h.tkeep b hb hT).imp (fun x=>x) fun ⟨q,q1,q2,q3,q4⟩=>⟨q,hd q q1,q2,hnone q q3,q4⟩
  fresh:=fun id b h1 h2 h3=>(h.fresh id b (hsome id h1) h2 (hcut h3).2).imp (fun x=>x) fun ⟨q,q1,q2,q3,q4⟩=>⟨q,hd q q1,q2,hnone q q3,q4⟩
  inv:=h.inv}
theorem mL{a b:Nat}(hab:a≠b): ∀(l:dB) (t:Nat),aI (wY (mvF a b) l) t=if t=a then none else if t=b then (aI l a).map (jO (mvF a b)) else (aI l t).map (jO (mvF a b))
 | [],t=>by simp [wY,aI]
 |(u,v)::l,t=>by
  have ih:=mL hab l t
  simp only [wY,mvF]
  by_cases hua:u=a
  ·subst hua
   rw [Nat.beq_refl]
   simp only [cond_true,aI,Nat.beq_refl]
   by_cases htb:t=b
   ·subst htb
    have:t≠u:=fun e=>hab e.symm
    simp [this,Nat.beq_refl]
   ·have hbt:Nat.beq b t=false:=by rw [Bool.eq_false_iff];intro e;exact htb (Nat.eq_of_beq_eq_true e).symm
    rw [hbt,cond_false,ih]
    by_cases hta:t=u
    ·simp [hta]
    ·have hut:Nat.beq u t=false:=by rw [Bool.eq_false_iff];intro e;exact hta (Nat.eq_of_beq_eq_true e).symm
     simp [hta,htb,hut]
  ·have hua':Nat.beq u a=false:=by rw [Bool.eq_false_iff];intro e;exact hua (Nat.eq_of_beq_eq_true e)
   rw [hua']
   simp only [cond_false]
   by_cases hub:u=b
   ·subst hub
    rw [Nat.beq_refl]
    simp only [cond_true]
    rw [ih]
    simp only [aI,hua',cond_false]
    by_cases hta:t=a
    ·simp [hta]
    ·by_cases htb:t=u
     ·simp [htb]
     ·have hut:Nat.beq u t=false:=by rw [Bool.eq_false_iff];intro e;exact htb (Nat.eq_of_beq_eq_true e).symm
      simp [hta,htb,hut]
   ·have hub':Nat.beq u b=false:=by rw [Bool.eq_false_iff];intro e;exact hub (Nat.eq_of_beq_eq_true e)
    rw [hub']
    simp only [cond_false,aI,hua']
    rw [ih]
    by_cases hut:u=t
    ·subst hut
     simp [hua,hub,Nat.beq_refl]
    ·have hut':Nat.beq u t=false:=by rw [Bool.eq_false_iff];intro e;exact hut (Nat.eq_of_beq_eq_true e)
     simp [hut']
theorem P7{P:Program}{n a b m:Nat}{s:St}(hab:a≠b)(ha:n<=a)(hb:n<=b)(hm:s.nxt<=m)(hbm:b<m):
  D0 P n s ⟨LG (mvF a b) s.tmps,wY (mvF a b) s.store,m,s.dirty,s.nt⟩:=by
 rintro B act w rfl ⟨h1,ρ,T,h⟩
 let ρ2:aG:=fun i=>if i=b then ρ a else if i=a then none else ρ i
 have hf: ∀i j c,mvF a b i=some j->ρ i=some c->ρ2 j=some c:=by
  intro i j c hi hc
  unfold mvF at hi
  by_cases hia:i=a
  ·subst hia
   rw [Nat.beq_refl] at hi
   cases hi
   show (if _ then _ else _)=_
   rw [if_pos rfl];exact hc
  ·rw [show Nat.beq i a=false by rw [Bool.eq_false_iff];intro e;exact hia (Nat.eq_of_beq_eq_true e)] at hi
   simp only [cond_false] at hi
   by_cases hib:i=b
   ·rw [hib,Nat.beq_refl] at hi;cases hi
   ·rw [show Nat.beq i b=false by rw [Bool.eq_false_iff];intro e;exact hib (Nat.eq_of_beq_eq_true e)] at hi
    cases hi
    show (if _ then _ else if _ then _ else _)=_
    rw [if_neg hib,if_neg hia];exact hc
 have hlow: ∀q,q<B.n->aI s.store q=none->aI (wY (mvF a b) s.store) q=none:=by
  intro q hq hn
  rw [mL hab,if_neg (by omega),if_neg (by omega),hn];rfl
 have hpre: ∀id sb,aI (wY (mvF a b) s.store) id=some sb->id≠a/\ ∃sb0,aI s.store (if id=b then a else id)=some sb0/\sb=jO (mvF a b) sb0/\ρ2 id=ρ (if id=b then a else id):=by
  intro id sb hid
  rw [mL hab] at hid
  by_cases hia:id=a
  ·rw [if_pos hia] at hid;cases hid
  ·rw [if_neg hia] at hid
   refine ⟨hia, ?_⟩
   have hρ2:ρ2 id=ρ (if id=b then a else id):=by
    show (if _ then _ else if _ then _ else _)=_
    by_cases hib:id=b
    ·rw [if_pos hib,if_pos hib]
    ·rw [if_neg hib,if_neg hia,if_neg hib]
   by_cases hib:id=b
   ·rw [if_pos hib] at hid hρ2|-
    obtain ⟨sb0,h2,h3⟩:=Option.map_eq_some_iff.1 hid
    exact ⟨sb0,h2,h3.symm,hρ2⟩
   ·rw [if_neg hib] at hid hρ2|-
    obtain ⟨sb0,h2,h3⟩:=Option.map_eq_some_iff.1 hid
    exact ⟨sb0,h2,h3.symm,hρ2⟩
 refine ⟨Nat.le_trans h1 hm,ρ2,T, ?_⟩
 exact {
  defers:=h.defers
  size:=h.size
  tmps:=fun t=>by rw [vW];exact qI hf _ _ (h.tmps t)
  store:=fun id sb hid=>by
   obtain ⟨hia,sb0,h2,rfl,h4⟩:=hpre id sb hid
   obtain ⟨hA,c,b1,b2,b3⟩:=h.store _ sb0 h2
   refine ⟨?_,c,by rw [h4];exact b1,b2,rU hf b3⟩
   have hA:(if id=b then a else id)<s.nxt:=hA
   show id<m
   by_cases hib:id=b
   ·omega
   ·rw [if_neg hib] at hA;omega
  names:=fun id c hid=>by
   have hid:(if id=b then ρ a else if id=a then none else ρ id)=some c:=hid
   show id<m/\_
   by_cases hib:id=b
   ·rw [if_pos hib] at hid
    exact ⟨by omega,(h.names a c hid).2⟩
   ·rw [if_neg hib] at hid
    by_cases hia:id=a
    ·rw [if_pos hia] at hid;cases hid
    ·rw [if_neg hia] at hid
     have:=h.names id c hid
     exact ⟨Nat.lt_of_lt_of_le this.1 hm,this.2⟩
  inj:=fun i j c hi hj h1 h2=>by
   obtain ⟨si,hsi⟩:=Option.isSome_iff_exists.1 hi
   obtain ⟨sj,hsj⟩:=Option.isSome_iff_exists.1 hj
   obtain ⟨a1,s1,l1,_,r1⟩:=hpre i si hsi
   obtain ⟨a2,s2,l2,_,r2⟩:=hpre j sj hsj
   rw [r1] at h1;rw [r2] at h2
   have:=h.inj _ _ c (by rw [l1];rfl) (by rw [l2];rfl) h1 h2
   by_cases hib:i=b<;>by_cases hjb:j=b
   ·rw [hib,hjb]
   ·rw [if_pos hib,if_neg hjb] at this;exact absurd this.symm a2
   ·rw [if_neg hib,if_pos hjb] at this;exact absurd this a1
   ·rw [if_neg hib,if_neg hjb] at this;exact this
  base:=fun id hid=>Nat.lt_of_lt_of_le (h.base id hid) hm
  full:=h.full
  grow:=h.grow
  old:=fun p c hp=>by
   have:=h.old p c hp
   refine ⟨this.1, ?_⟩
   show (if _ then _ else if _ then _ else _)=_
   rw [if_neg (by omega),if_neg (by omega)];exact this.2
  tback:=h.tback
  tkeep:=fun c hc hT=>(h.tkeep c hc hT).imp (fun x=>x) fun ⟨q,q1,q2,q3,q4⟩=>⟨q,q1,q2,hlow q q2 q3,q4⟩
  fresh:=fun id c h2 h3 h4=>by
   obtain ⟨sb,hsb⟩:=Option.isSome_iff_exists.1 h2
   obtain ⟨a1,s1,l1,_,r1⟩:=hpre id sb hsb
   rw [r1] at h4
   refine (h.fresh _ c (by rw [l1];rfl) (by by_cases hib:id=b;rw [if_pos hib];exact ha;rw [if_neg hib];exact h3) h4).imp (fun x=>x) fun ⟨q,q1,q2,q3,q4⟩=>⟨q,q1,q2,hlow q q2 q3,q4⟩
  inv:=h.inv}
theorem NU{P:Program}{n a b m:Nat}{s:St}(hab:a≠b)(ha:a<n)(hb:n<=b)(hal:(aI s.store a).isSome)(hm:s.nxt<=m)(hbm:b<m):
  D0 P n s ⟨LG (mvF a b) s.tmps,wY (mvF a b) s.store,m,iS s.dirty [a],s.nt⟩:=by
 rintro B act w rfl ⟨h1,ρ,T,h⟩
 let ρ2:aG:=fun i=>if i=b then ρ a else ρ i
 have hf: ∀i j c,mvF a b i=some j->ρ i=some c->ρ2 j=some c:=by
  intro i j c hi hc
  unfold mvF at hi
  by_cases hia:i=a
  ·subst hia
   rw [Nat.beq_refl] at hi
   cases hi
   show (if _ then _ else _)=_
   rw [if_pos rfl];exact hc
  ·rw [show Nat.beq i a=false by rw [Bool.eq_false_iff];intro e;exact hia (Nat.eq_of_beq_eq_true e)] at hi
   simp only [cond_false] at hi
   by_cases hib:i=b
   ·rw [hib,Nat.beq_refl] at hi;cases hi
   ·rw [show Nat.beq i b=false by rw [Bool.eq_false_iff];intro e;exact hib (Nat.eq_of_beq_eq_true e)] at hi
    cases hi
    show (if _ then _ else _)=_
    rw [if_neg hib];exact hc
 have hlow: ∀q,q<B.n->aI s.store q=none->aI (wY (mvF a b) s.store) q=none:=by
  intro q hq hn
  rw [mL hab,if_neg (fun e=>by subst e;rw [hn] at hal;cases hal),if_neg (by omega),hn];rfl
 have hdeadA:aI (wY (mvF a b) s.store) a=none:=by rw [mL hab,if_pos rfl]
 have hD: ∀p,p∈s.dirty->p∈iS s.dirty [a]:=fun p hp=>(eD _ _ _).2 (.inl hp)
 have hDa:a∈iS s.dirty [a]:=(eD _ _ _).2 (.inr (by simp))
 have hBa: ∀c,ρ a=some c->B.ρ a=some c:=fun c hc=>by
  obtain ⟨c',hc'⟩:=h.full a ha
  have:=(h.old a c' hc').2
  rw [hc] at this;cases this
  exact hc'
 have hpre: ∀id sb,aI (wY (mvF a b) s.store) id=some sb->id≠a/\ ∃sb0,aI s.store (if id=b then a else id)=some sb0/\sb=jO (mvF a b) sb0/\ρ2 id=ρ (if id=b then a else id):=by
  intro id sb hid
  rw [mL hab] at hid
  by_cases hia:id=a
  ·rw [if_pos hia] at hid;cases hid
  ·rw [if_neg hia] at hid
   refine ⟨hia, ?_⟩
   have hρ2:ρ2 id=ρ (if id=b then a else id):=by
    show (if _ then _ else _)=_
    by_cases hib:id=b
    ·rw [if_pos hib,if_pos hib]
    ·rw [if_neg hib,if_neg hib]
   by_cases hib:id=b
   ·rw [if_pos hib] at hid hρ2|-
    obtain ⟨sb0,h2,h3⟩:=Option.map_eq_some_iff.1 hid
    exact ⟨sb0,h2,h3.symm,hρ2⟩
   ·rw [if_neg hib] at hid hρ2|-
    obtain ⟨sb0,h2,h3⟩:=Option.map_eq_some_iff.1 hid
    exact ⟨sb0,h2,h3.symm,hρ2⟩
 refine ⟨Nat.le_trans h1 hm,ρ2,T, ?_⟩
 exact {
  defers:=h.defers
  size:=h.size
  tmps:=fun t=>by rw [vW];exact qI hf _ _ (h.tmps t)
  store:=fun id sb hid=>by
   obtain ⟨hia,sb0,h2,rfl,h4⟩:=hpre id sb hid
   obtain ⟨hA,c,b1,b2,b3⟩:=h.store _ sb0 h2
   refine ⟨?_,c,by rw [h4];exact b1,b2,rU hf b3⟩
   have hA:(if id=b then a else id)<s.nxt:=hA
   show id<m
   by_cases hib:id=b
   ·omega
   ·rw [if_neg hib] at hA;omega
  names:=fun id c hid=>by
   have hid:(if id=b then ρ a else ρ id)=some c:=hid
   show id<m/\_
   by_cases hib:id=b
   ·rw [if_pos hib] at hid
    exact ⟨by omega,(h.names a c hid).2⟩
   ·rw [if_neg hib] at hid
    have:=h.names id c hid
    exact ⟨Nat.lt_of_lt_of_le this.1 hm,this.2⟩
  inj:=fun i j c hi hj h1 h2=>by
   obtain ⟨si,hsi⟩:=Option.isSome_iff_exists.1 hi
   obtain ⟨sj,hsj⟩:=Option.isSome_iff_exists.1 hj
   obtain ⟨a1,s1,l1,_,r1⟩:=hpre i si hsi
   obtain ⟨a2,s2,l2,_,r2⟩:=hpre j sj hsj
   rw [r1] at h1;rw [r2] at h2
   have:=h.inj _ _ c (by rw [l1];rfl) (by rw [l2];rfl) h1 h2
   by_cases hib:i=b<;>by_cases hjb:j=b
   ·rw [hib,hjb]
   ·rw [if_pos hib,if_neg hjb] at this;exact absurd this.symm a2
   ·rw [if_neg hib,if_pos hjb] at this;exact absurd this a1
   ·rw [if_neg hib,if_neg hjb] at this;exact this
  base:=fun id hid=>Nat.lt_of_lt_of_le (h.base id hid) hm
  full:=h.full
  grow:=h.grow.mono fun c _ ⟨p,p1,p2⟩=>⟨p,hD p p1,p2⟩
  old:=fun p c hp=>by
   have:=h.old p c hp
   refine ⟨this.1, ?_⟩
   show (if _ then _ else _)=_
   rw [if_neg (by omega)];exact this.2
  tback:=h.tback
  tkeep:=fun c hc hT=>(h.tkeep c hc hT).imp (fun x=>x) fun ⟨q,q1,q2,q3,q4⟩=>⟨q,hD q q1,q2,hlow q q2 q3,q4⟩
  fresh:=fun id c h2 h3 h4=>by
   obtain ⟨sb,hsb⟩:=Option.isSome_iff_exists.1 h2
   obtain ⟨a1,s1,l1,_,r1⟩:=hpre id sb hsb
   rw [r1] at h4
   by_cases hib:id=b
   ·rw [if_pos hib] at h4
    exact .inr ⟨a,hDa,ha,hdeadA,hBa c h4⟩
   ·rw [if_neg hib] at h4 l1
    exact (h.fresh id c (by rw [l1];rfl) h3 h4).imp (fun x=>x) fun ⟨q,q1,q2,q3,q4⟩=>⟨q,hD q q1,q2,hlow q q2 q3,q4⟩
  inv:=h.inv}
theorem rZ{P:Program}{n:Nat}{v:SV}{s:St}:D0 P n s (BP v s):=by
 intro B act w hB hn
 have hgo: ∀(b:Nat) (e:TypeId) (cs:List SV) (st len:Nat),aI s.store b=some (.lst e cs)->ids.idsL cs=[]->cs.length=len*st->
   Now B ⟨s.tmps,(b,some (.row e st len (fun i=>cut cs (i*st) st)))::s.store,s.nxt,s.dirty,s.nt⟩ act w:=by
  intro b e cs st len hl hf hlen
  obtain ⟨h1,ρ,T,h⟩:=hn
  have hlook: ∀id,aI ((b,some (SB.row e st len (fun i=>cut cs (i*st) st)))::s.store) id=if id=b then some (SB.row e st len (fun i=>cut cs (i*st) st)) else aI s.store id:=by
   intro id
   simp only [aI]
   by_cases hid:id=b
   ·subst hid;simp
   ·rw [if_neg hid,show Nat.beq b id=false by rw [Bool.eq_false_iff];intro e;exact hid (Nat.eq_of_beq_eq_true e).symm];rfl
  have hsome: ∀id,(aI ((b,some (SB.row e st len (fun i=>cut cs (i*st) st)))::s.store) id).isSome->(aI s.store id).isSome:=by
   intro id hid
   rw [hlook] at hid
   by_cases hb:id=b
   ·rw [hb,hl];rfl
   ·rw [if_neg hb] at hid;exact hid
  have hnone: ∀id,aI s.store id=none->aI ((b,some (SB.row e st len (fun i=>cut cs (i*st) st)))::s.store) id=none:=by
   intro id hid
   rw [hlook,if_neg];·exact hid
   rintro rfl;rw [hl] at hid;cases hid
  refine ⟨h1,ρ,T,{h with
   store:=fun id sb hid=> ?_
   inj:=fun i j c hi hj h1 h2=>h.inj i j c (hsome i hi) (hsome j hj) h1 h2
   tkeep:=fun c hc hT=>(h.tkeep c hc hT).imp (fun x=>x) fun ⟨q,q1,q2,q3,q4⟩=>⟨q,q1,q2,hnone q q3,q4⟩
   fresh:=fun id c h2 h3 h4=>(h.fresh id c (hsome id h2) h3 h4).imp (fun x=>x) fun ⟨q,q1,q2,q3,q4⟩=>⟨q,q1,q2,hnone q q3,q4⟩}⟩
  rw [hlook] at hid
  by_cases hb:id=b
  ·rw [if_pos hb] at hid
   cases hid
   subst hb
   obtain ⟨hA,c,b1,b2,b3⟩:=h.store id _ hl
   exact ⟨hA,c,b1,b2,oT hf hlen b3⟩
  ·rw [if_neg hb] at hid
   exact h.store id sb hid
 unfold BP W9
 split
 ·rename_i b st len
  split
  ·rename_i e cs hl
   cases hc:(ids.idsL cs).isEmpty&&Nat.beq cs.length (len*st) with
   |false=>exact hn
   |true=>
    simp only [Bool.and_eq_true,List.isEmpty_iff] at hc
    exact hgo b e cs st len hl hc.1 (Nat.eq_of_beq_eq_true hc.2)
  ·exact hn
 ·exact hn
theorem A8{P:Program}{n t:Nat}{s:St}:D0 P n s (YW t s):=rZ
theorem kM{P:Program}{n0:Nat}: ∀(mv:List (Nat×Nat)) {s s':St},yY n0 mv s=some s'->D0 P n0 s s'
 | [],s,s',h=>by cases h;exact fun _ _ _ _ h=>h
 |(t,b)::r,s,s',h=>by
  simp only [yY] at h
  split at h
  ·exact kM r h
  ·rename_i a _
   cases hab:Nat.beq a b with
   |true=>rw [hab] at h;exact fun B act w hB hn=>kM r h B act w hB (A8 B act w hB hn)
   |false=>
    rw [hab] at h
    simp only [cond_false] at h
    cases hc:Nat.ble n0 a&&Nat.ble n0 b with
    |false=>rw [hc] at h;cases h
    |true=>
     rw [hc] at h
     simp only [cond_true] at h
     simp only [Bool.and_eq_true] at hc
     have hne:a≠b:=by rintro rfl;rw [Nat.beq_refl] at hab;cases hab
     intro B act w hB hn
     refine kM r h B act w hB (A8 B act w hB (P7 hne (Nat.le_of_ble_eq_true hc.1) (Nat.le_of_ble_eq_true hc.2) ?_ ?_ B act w hB hn))
     ·cases hx:Nat.ble s.nxt b with
      |true=>exact Nat.le_trans (Nat.le_of_ble_eq_true hx) (Nat.le_succ _)
      |false=>exact Nat.le_refl _
     ·cases hx:Nat.ble s.nxt b with
      |true=>exact Nat.lt_succ_self _
      |false=>
       rw [Bool.eq_false_iff] at hx
       have: ¬s.nxt<=b:=fun e=>hx (Nat.ble_eq_true_of_le e)
       simp only [cond_false]
       omega
theorem lH{P:Program}{n0:Nat}: ∀(mv:List ((Nat×List Nat)×Nat)) {s s':St},vB n0 mv s=some s'->D0 P n0 s s'
 | [],s,s',h=>by cases h;exact fun _ _ _ _ h=>h
 |((t,p),b)::r,s,s',h=>by
  simp only [vB] at h
  split at h
  ·exact lH r h
  ·rename_i a _
   cases hab:Nat.beq a b with
   |true=>rw [hab] at h;exact fun B act w hB hn=>lH r h B act w hB (rZ B act w hB hn)
   |false=>
    rw [hab] at h
    simp only [cond_false] at h
    cases hc:Nat.ble n0 b&&(Nat.ble n0 a||(aI s.store a).isSome) with
    |false=>rw [hc] at h;cases h
    |true=>
     rw [hc] at h
     simp only [cond_true] at h
     simp only [Bool.and_eq_true,Bool.or_eq_true] at hc
     have hne:a≠b:=by rintro rfl;rw [Nat.beq_refl] at hab;cases hab
     have hm:s.nxt<=(bif Nat.ble s.nxt b then b+1 else s.nxt)/\b<(bif Nat.ble s.nxt b then b+1 else s.nxt):=by
      cases hx:Nat.ble s.nxt b with
      |true=>exact ⟨Nat.le_trans (Nat.le_of_ble_eq_true hx) (Nat.le_succ _),Nat.lt_succ_self _⟩
      |false=>
       rw [Bool.eq_false_iff] at hx
       have: ¬s.nxt<=b:=fun e=>hx (Nat.ble_eq_true_of_le e)
       simp only [cond_false]
       omega
     intro B act w hB hn
     refine lH r h B act w hB (rZ B act w hB ?_)
     cases hna:Nat.ble n0 a with
     |true=>exact P7 hne (Nat.le_of_ble_eq_true hna) (Nat.le_of_ble_eq_true hc.1) hm.1 hm.2 B act w hB hn
     |false=>
      rw [hna] at hc
      have hlt:a<n0:=by
       rw [Bool.eq_false_iff] at hna
       exact Nat.not_le.1 fun e=>hna (Nat.ble_eq_true_of_le e)
      exact NU hne hlt (Nat.le_of_ble_eq_true hc.1) (hc.2.resolve_left (by simp)) hm.1 hm.2 B act w hB hn
theorem oD{P:Program}{n0:Nat}{R:eR}{s s':St}(h:sD n0 R s=some s'):D0 P n0 s s':=by
 unfold sD at h
 cases hc:(Nat.ble n0 R.m&&WH R.d s.dirty&&BH R.m (CT s.tmps R.ts)&&xA R.m (CL s.store R.bs)) with
 |false=>rw [hc] at h;cases h
 |true=>
  rw [hc] at h
  simp only [cond_true,Option.some.injEq] at h
  subst h
  simp only [Bool.and_eq_true] at hc
  obtain ⟨⟨⟨h1,h3⟩,h4⟩,h5⟩:=hc
  exact aBQ (Nat.le_of_ble_eq_true h1) (RW h3) rfl (LE h4) (CX h5)
theorem bC{P:Program}(n0:Nat): ∀R:List (Nat×eR),sS P n0 (aB R n0)
 | [],blk,s,s',h=>by cases h;exact fun _ _ _ _ h=>h
 |(b,k)::r,blk,s,s',h=>by
  simp only [aB] at h
  cases hb:Nat.beq b blk with
  |true=>
   rw [hb] at h
   simp only [cond_true] at h
   split at h
   ·rename_i s1 hs1
    exact fun B a w hB hn=>oD h B a w hB (kM _ hs1 B a w hB hn)
   ·cases h
  |false=>rw [hb] at h;exact bC n0 r blk s s' h
theorem qS{P:Program}(n0:Nat): ∀R:List (Nat×eR×List ((Nat×List Nat)×Nat)),sS P n0 (bZ R n0)
 | [],blk,s,s',h=>by cases h;exact fun _ _ _ _ h=>h
 |(b,k,m)::r,blk,s,s',h=>by
  simp only [bZ] at h
  cases hb:Nat.beq b blk with
  |true=>
   rw [hb] at h
   simp only [cond_true] at h
   split at h
   ·rename_i s1 hs1
    split at h
    ·rename_i s2 hs2
     exact fun B a w hB hn=>oD h B a w hB (lH _ hs2 B a w hB (kM _ hs1 B a w hB hn))
    ·cases h
   ·cases h
  |false=>rw [hb] at h;exact qS n0 r blk s s' h
def aF(env:Env)(W:Nat->St->Option St)(fn:Func)(path:List Nat)(blk:Nat)(K:Ex->St->Prop)(s:St):Prop:=
 dN env W blk (pQ (GS fn) (path++[0])) (fun e=>wk (W blk) (K e)) s
def aE(env:Env)(W:Nat->St->Option St)(fn:Func)(path:List Nat)(n0:Nat)(K:KC):Ex->St->Prop:=
 P0 env W 1000000 (GS fn) path (aGq env fn n0 K)
def bO(env:Env)(W:Nat->St->Option St)(fn:Func)(path:List Nat)(blk n0:Nat)(K:KC):Nat->St->Prop:=
 iter (aF env W fn path blk) (aE env W fn path n0 K)
theorem jB{env:Env}{W:Nat->St->Option St}{fn:Func}{path:List Nat}{blk n0:Nat}{K:KC}{n:Nat}{s:St}:
  bO env W fn path blk n0 K (n+1) s=aF env W fn path blk (fun e s=>match e with
   | .normal=>bO env W fn path blk n0 K n s
   |e=>aE env W fn path n0 K e s) s:=rfl
end Go.Se
namespace Go.Se
variable {P:Program}
mutual
def ok :SV->Prop
 | .int k n=>k.min<=n/\n<=k.max
 | .str s=>s.size<9223372036854775808
 | .rptr cs=>okL cs
 | .agg cs=>okL cs
 | .tup cs=>okL cs
 | .arr _ _ len _=>len<9223372036854775808
 | .own _ _ _ len=>len<9223372036854775808
 | .ro len _ get=>len<9223372036854775808/\ ∀i,i<len->okL (get i)
 | .iface _ x=>ok x
 |_=>True
def okL :List SV->Prop
 | []=>True
 |a::l=>ok a/\okL l
end
def okB :SB->Prop
 | .cells _ cs=>okL cs
 | .lst _ cs=>okL cs
 | .row _ _ len g=> ∀i,i<len->okL (g i)
 | .loop _ _ _ _ _ _=>True
 | .iter s _=>s.size<9223372036854775808
def okS :List (Option SB)->Prop
 | []=>True
 |some b::l=>okB b/\okS l
 |none::l=>okS l
section
variable {T:Nat->Prop} {w:World}
mutual
theorem N0{ρ:aG}: ∀(a:SV) (v:Value),rel ρ T w a v->ok a
 | .junk,_,_=>trivial
 | .int _ _,_,⟨_,h⟩=>h
 | .bool _,_,_=>trivial
 | .str _,_,⟨_,h⟩=>h
 | .nilp,_,_=>trivial
 | .ptr _ _,_,_=>trivial
 | .eptr _ _ _ _,_,_=>trivial
 | .rptr cs,_,⟨b,o,_,_,_,h⟩=>DA cs b o h
 | .fn _ _ _,_,_=>trivial
 | .nilfn,_,_=>trivial
 | .agg cs,_,⟨_,_,h⟩=>pR cs _ h
 | .tup cs,_,⟨_,_,h⟩=>pR cs _ h
 | .nils,_,_=>trivial
 | .emp,_,_=>trivial
 | .arr _ _ _ _,_,⟨_,h⟩=>h
 | .own _ _ _ _,_,⟨_,_,_,_,h1,h2,_⟩=>Nat.lt_of_le_of_lt h1 h2
 | .ro len st g,_,⟨_,_,_,h1,h2⟩=>⟨h1.2.1,fun i hi=>by
   obtain ⟨b,off,_,_,_,h⟩:=h2 (Nat.lt_of_le_of_lt (Nat.zero_le _) hi)
   exact DA (g i) _ _ (h i hi)⟩
 | .nilI,_,_=>trivial
 | .iface _ x,_,⟨y,_,h⟩=>N0 x y h
 | .yld _,_,_=>trivial
theorem pR{ρ:aG}: ∀(l:List SV) (m:List Value),aQ ρ T w l m->okL l
 | [],_,_=>trivial
 |a::l,_,⟨v,r,_,h,h'⟩=>⟨N0 a v h,pR l r h'⟩
theorem DA : ∀(l:List SV) (b o:Nat),dS T w l b o->okL l
 | [],_,_,_=>trivial
 |a::l,b,o,⟨⟨v,_,h⟩,h'⟩=>⟨N0 a v h,DA l b (o+1) h'⟩
end
theorem aBY{ρ:aG}{sb:SB}{b:Nat}(h:eF ρ T w sb b):okB sb:=by
 cases sb with
 |cells e cs=>obtain ⟨_,_,h⟩:=h;exact pR _ _ h
 |lst e cs=>obtain ⟨_,_,m,_,_,h⟩:=h;exact pR _ _ h
 |row e st len g=>obtain ⟨_,_,_,h⟩:=h;exact fun i hi=>pR _ _ (h i hi)
 |loop tm nt ps as bd pend=>exact trivial
 |iter s pos=>obtain ⟨_,_,_,h⟩:=h;exact h
theorem OU : ∀(σ:List (Option SB)),(∀sb,some sb∈σ->okB sb)->okS σ
 | [],_=>trivial
 |some b::l,h=>⟨h b (List.mem_cons_self ..),OU l fun sb hs=>h sb (List.mem_cons_of_mem _ hs)⟩
 |none::l,h=>OU l fun sb hs=>h sb (List.mem_cons_of_mem _ hs)
end
theorem mH {k:FuncId} {xs:List SV} {σ:List (Option SB)} {v:SV} {σ':List (Option SB)} {d:List Nat}
  (h:okL xs->okS σ->aD P k xs σ v σ' d):aD P k xs σ v σ' d:=by
 intro ρ T w vals h1 h2 h3 h4
 refine h (pR _ _ h1) (OU _ fun sb hs=> ?_) ρ T w vals h1 h2 h3 h4
 obtain ⟨p,hp,e⟩:=List.getElem_of_mem hs
 obtain ⟨sb',b,e1,_,_,e2⟩:=h2 p hp
 rw [List.getElem?_eq_getElem hp,e,Option.some.injEq,Option.some.injEq] at e1
 subst e1
 exact aBY e2
structure bT (P:Program) where
 G:FuncId->List SV->List (Option SB)->KC->Prop
 ok: ∀k xs σ,Sat P k xs σ (G k xs σ)
 dom:FuncId->Bool
def bT.none(P:Program):bT P:=⟨fun _ _ _ _=>False,fun _ _ _ _ h=>h.elim,fun _=>false⟩
def bT.add{P:Program}(B:bT P)(k:FuncId)(C:List SV->List (Option SB)->KC->Prop)(h: ∀xs σ,Sat P k xs σ (C xs σ)):bT P where
 G:=fun j xs σ K=>bif Nat.beq j k then C xs σ K else B.G j xs σ K
 ok:=fun j xs σ=>by
  cases hb:Nat.beq j k with
  |true=>rw [Nat.eq_of_beq_eq_true hb];simpa using h xs σ
  |false=>simpa using B.ok j xs σ
 dom:=fun j=>Nat.beq j k||B.dom j
abbrev Out :=Option (SV×List (Option SB)×List Nat)
def one(c:List SV->List (Option SB)->Out)(xs:List SV)(σ:List (Option SB))(K:KC):Prop:=
 match c xs σ with
 |some (v,σ',d)=>K v σ' d
 |none=>False
theorem bD{k:FuncId}{c:List SV->List (Option SB)->Out}(h: ∀xs σ v σ' d,c xs σ=some (v,σ',d)->aD P k xs σ v σ' d)(xs:List SV)(σ:List (Option SB)):Sat P k xs σ (one c xs σ):=by
 intro K hK
 unfold one at hK
 split at hK
 ·rename_i v σ' d hc
  exact ⟨v,σ',d,hK,h _ _ _ _ _ hc⟩
 ·exact hK.elim
def lI(c:List SV->List (Option SB)->Option (Bool×SV×List (Option SB)×List Nat))(xs:List SV)(σ:List (Option SB))(K:KC):Prop:=
 match c xs σ with
 |some (b,v,σ',d)=>match b with
  |true=>K v σ' d
  |false=>False
 |none=>False
theorem d6{k:FuncId}{c:List SV->List (Option SB)->Option (Bool×SV×List (Option SB)×List Nat)}(h: ∀xs σ v σ' d,c xs σ=some (true,v,σ',d)->aD P k xs σ v σ' d)(xs:List SV)(σ:List (Option SB)):Sat P k xs σ (lI c xs σ):=by
 intro K hK
 unfold lI at hK
 split at hK
 ·rename_i b v σ' d hc
  cases b
  ·exact hK.elim
  ·exact ⟨v,σ',d,hK,h _ _ _ _ _ hc⟩
 ·exact hK.elim
structure Tab (P:Program) where
 tt:TypeId->Option TI
 ft:FuncId->Option Func
 htt: ∀t ti,tt t=some ti->eL P t ti
 hft: ∀k fn,ft k=some fn->P.funcs[k]? =some fn/\(fn.name== "runtime.NumGoroutine")=false
 mixed:P.follows .mixedOrders=true
def Tab.env{P:Program}(A:Tab P)(B:bT P)(unroll:Nat->Nat)(cut:Nat->Bool):Env:=
 {tt:=A.tt,ft:=A.ft,callee:=B.G,view:=fun _=>false,unroll:=unroll,cut:=cut}
theorem qY (A:Tab P) (B:bT P) {R:List (Nat×eR)} {unroll:Nat->Nat} {cut:Nat->Bool} {known:FuncId->Bool} {n:Nat} {k:FuncId} {xs:List SV} {σ:List (Option SB)} {v:SV} {σ':List (Option SB)} {d:List Nat}
  (h:okL xs->okS σ->calls (A.env B unroll cut) (aB R) known n k xs σ fun v' σ'' d'=>v'=v/\σ''=σ'/\d'=d):aD P k xs σ v σ' d:=by
 refine mH fun h1 h2=> ?_
 obtain ⟨v',σ'',d',⟨rfl,rfl,rfl⟩,hc⟩:=bX (env:=A.env B unroll cut) ⟨A.htt,B.ok⟩ A.mixed (fun n=>bC n R) A.hft n k xs σ _ (h h1 h2)
 exact hc
theorem kY {k:FuncId} {fn:Func} {e:Array Value->Sem Value} (hf:P.funcs[k]? =some fn) (hname:(fn.name== "runtime.NumGoroutine")=false) (hb:fn.body.isNone=true)
  (hn:Extern.findNext fn=none) (he:Extern.find fn=some e) {xs:List SV} {v:SV}
  (h: ∀(T:Nat->Prop) (w:World) (vals:Array Value),aQ (fun _=>none) T w xs vals.toList-> ∃x,(e vals).run P w= .ok x w/\rel (fun _=>none) T w v x):aD P k xs [] v [] []:=by
 intro ρ T w vals h1 _ h3 h4
 have hρ:ρ=fun _=>none:=by
  funext p
  cases hp:ρ p with
  |none=>rfl
  |some b=>exact absurd (h4 p b hp).1 (Nat.not_lt_zero _)
 subst hρ
 obtain ⟨x,hx,hr⟩:=h T w vals h1
 refine .inr ⟨x,w, ?_,fun _=>none,T,{
  names:=fun _ _ h=>h
  only:=fun _ _ h=>by cases h
  len:=Nat.le_refl _
  val:=hr
  store:=fun p sb h=>by simp at h
  fresh:=fun _ _ _ h=>by cases h
  inj:=fun _ _ _ _ _ h=>by cases h
  dirty:=fun _ h=>by cases h
  grow:=aX.refl _ _
  tback:=fun _ _ h=>h
  below:=fun _ _ h=>by cases h
  tkeep:=fun _ _ h=> .inl h}⟩
 rw [run_callFunc_extern hf hname hb hn he,hx]
 rfl
def XQ :List SV->List (Option SB)->KC->Prop
 | [.int .u64 a,.int .u64 b,.int .u64 c],[],K=>If (decide (0<=c)&&decide (c<=1)) (K (.tup [.int .u64 ((a+b+c)%18446744073709551616),.int .u64 ((a+b+c)/18446744073709551616)]) [] [])
 |_,_,_=>False
def YG :List SV->List (Option SB)->KC->Prop
 | [.int .u64 a,.int .u64 b,.int .u64 c],[],K=>If (decide (0<=c)&&decide (c<=1)) (K (.tup [.int .u64 ((a - b - c)%18446744073709551616),.int .u64 (bif decide (a<b+c) then 1 else 0)]) [] [])
 |_,_,_=>False
theorem If.get{c:Bool}{A:Prop}(h:If c A):c=true/\A:=by
 cases c
 ·exact h.elim
 ·exact ⟨rfl,h⟩
theorem AS{ρ:aG}{T:Nat->Prop}{w:World}{x y z:SV}{vals:Array Value}(h:aQ ρ T w [x,y,z] vals.toList): ∃a b c,vals= #[a,b,c]/\rel ρ T w x a/\rel ρ T w y b/\rel ρ T w z c:=by
 obtain ⟨a,r,h1,ha,b,s,h2,hb,c,t,h3,hc,h4⟩:=h
 cases h4
 subst h3;subst h2
 exact ⟨a,b,c,by rw [<- Array.toList_inj,h1],ha,hb,hc⟩
def aGb :Array Value->Sem Value:=fun args=>do
 let (x,y,c)<- Extern.MathBitsCarry.three "Add64" args
 pure (Extern.MathBitsCarry.pair ((x+y+c)%Extern.MathBitsCarry.m64) ((x+y+c)/Extern.MathBitsCarry.m64))
def aGi :Array Value->Sem Value:=fun args=>do
 let (x,y,b)<- Extern.MathBitsCarry.three "Sub64" args
 pure (Extern.MathBitsCarry.pair ((x+Extern.MathBitsCarry.m64 - y - b)%Extern.MathBitsCarry.m64) (if x<y+b then 1 else 0))
theorem EZ{w:World}(s:String){a b c:Int}(hc:c.toNat<=1):(Extern.MathBitsCarry.three s #[.int .u64 a,.int .u64 b,.int .u64 c]).run P w= .ok (a.toNat,b.toNat,c.toNat) w:=by
 show (do
  let c:=(<- asInt (.int .u64 c)).toNat
  if c>1 then unsupported (.noEntry ("extern/math/bits." ++s++ ": a carry that is neither 0 nor 1"))
  pure ((<- asInt (.int .u64 a)).toNat,(<- asInt (.int .u64 b)).toNat,c):Sem (Nat×Nat×Nat)).run P w=_
 simp only [asInt,asIntOf,Sem.run_bind,Sem.run_pure,Result.andThen_ok]
 rw [if_neg (by omega)]
 rfl
theorem JL{ρ:aG}{T:Nat->Prop}{w:World}{m n:Nat}{a b:Int}(ha:a=(m:Int))(hb:b=(n:Int))(hm:m<18446744073709551616)(hn:n<18446744073709551616):
  rel ρ T w (.tup [.int .u64 a,.int .u64 b]) (Extern.MathBitsCarry.pair m n):=by
 subst ha;subst hb
 refine ⟨_,rfl,_,_,rfl,⟨rfl, ?_⟩,_,_,rfl,⟨rfl, ?_⟩,rfl⟩
 ·show (0:Int)<=_/\_<=(18446744073709551615:Int)
  omega
 ·show (0:Int)<=_/\_<=(18446744073709551615:Int)
  omega
theorem UO {k:FuncId} {fn:Func} (hf:P.funcs[k]? =some fn) (hname:(fn.name== "runtime.NumGoroutine")=false) (hb:fn.body.isNone=true)
  (hn:Extern.findNext fn=none) (he:Extern.find fn=some aGb) (xs:List SV) (σ:List (Option SB)):Sat P k xs σ (XQ xs σ):=by
 intro K hK
 unfold XQ at hK
 split at hK
 ·rename_i a b c
  obtain ⟨hc,hK⟩:=If.get hK
  refine ⟨_,_,_,hK,kY hf hname hb hn he fun T w vals hv=> ?_⟩
  obtain ⟨_,_,_,rfl,⟨rfl,ha⟩,⟨rfl,hb⟩,⟨rfl,hc'⟩⟩:=AS hv
  have ha':0<=a/\a<=18446744073709551615:=ha
  have hb':0<=b/\b<=18446744073709551615:=hb
  simp only [Bool.and_eq_true,decide_eq_true_eq] at hc
  refine ⟨_,by rw [aGb,Sem.run_bind,EZ _ (by omega)];rfl,JL ?_ ?_ ?_ ?_⟩<;>unfold Extern.MathBitsCarry.m64<;>omega
 ·exact hK.elim
theorem VQ {k:FuncId} {fn:Func} (hf:P.funcs[k]? =some fn) (hname:(fn.name== "runtime.NumGoroutine")=false) (hb:fn.body.isNone=true)
  (hn:Extern.findNext fn=none) (he:Extern.find fn=some aGi) (xs:List SV) (σ:List (Option SB)):Sat P k xs σ (YG xs σ):=by
 intro K hK
 unfold YG at hK
 split at hK
 ·rename_i a b c
  obtain ⟨hc,hK⟩:=If.get hK
  refine ⟨_,_,_,hK,kY hf hname hb hn he fun T w vals hv=> ?_⟩
  obtain ⟨_,_,_,rfl,⟨rfl,ha⟩,⟨rfl,hb⟩,⟨rfl,hc'⟩⟩:=AS hv
  have ha':0<=a/\a<=18446744073709551615:=ha
  have hb':0<=b/\b<=18446744073709551615:=hb
  simp only [Bool.and_eq_true,decide_eq_true_eq] at hc
  refine ⟨_,by rw [aGi,Sem.run_bind,EZ _ (by omega)];rfl,JL ?_ ?_ ?_ ?_⟩
  ·unfold Extern.MathBitsCarry.m64;omega
  ·by_cases h:a<b+c
   ·rw [if_pos (by omega),decide_eq_true h];rfl
   ·rw [if_neg (by omega),decide_eq_false h];rfl
  ·unfold Extern.MathBitsCarry.m64;omega
  ·split<;>omega
 ·exact hK.elim
end Go.Se
