import Derived.Test.YtghnfjfkjhbgdaaGreatDoorZA
import Derived.Laws.MakeOwn
import Derived.ProofKit
import Derived.OpenShut
import Derived.Below
import Derived.ChangeSame
import Derived.Carry
import Derived.Laws.Externs
namespace Go.Se
variable {P:Program}
theorem CX{ρ:aL}{T:Nat->Prop}{w:World}{k:IntKind}: ∀(l:List SV) (up:Bool) (a n:Int) (vs:List Value),aAK k up a l=some n->aX ρ T w l vs->
  k.min<=a/\a<=k.max->
  (vs.foldlM (if up then Builtin.max2 else Builtin.min2) (.int k a)).run P w= .ok (.int k n) w/\k.min<=n/\n<=k.max
 | [],up,a,n,vs,h,hv,ha=>by
  simp only [aAK,an] at h
  subst h;rw [hv];exact ⟨rfl,ha⟩
 |x::l,up,a,n,vs,h,⟨y,r,h1,h2,h3⟩,ha=>by
  cases x<;>simp only [aAK,reduceCtorEq] at h
  rename_i j b
  cases hj:decide (j=k) with
  |false=>rw [hj] at h;cases h
  |true=>
   rw [hj] at h
   obtain rfl:=aa hj
   simp only [ar] at h
   obtain ⟨rfl,hb⟩:=h2
   subst h1
   cases up
   ·simp only [ap] at h
    obtain ⟨h4,h5⟩:=CX l false _ n r h h3 (by split<;>assumption)
    refine ⟨?_,h5⟩
    simp only [bz,ea,List.foldlM_cons,Sem.run_bind] at h4|-
    simp only [Builtin.min2,Sem.run_pure,Result.andThen_ok]
    exact h4
   ·simp only [ar] at h
    obtain ⟨h4,h5⟩:=CX l true _ n r h h3 (by split<;>assumption)
    refine ⟨?_,h5⟩
    simp only [if_true,List.foldlM_cons,Sem.run_bind] at h4|-
    simp only [Builtin.max2,Sem.run_pure,Result.andThen_ok]
    exact h4
section
variable {st:St} {o:Oper} {K:KV} {env:Env} (htt: ∀t ti,env.tt t=some ti->gJ P t ti)
include htt
omit htt in
theorem LH{ρ:aL}{T:Nat->Prop}{w:World}(s:ByteArray)(n:Nat):aX ρ T w (EL s n) ((s.data.toList.take n).map fun b=>Value.int .u8 b.toNat):=by
 unfold EL
 generalize s.data.toList.take n=l
 induction l with
 |nil=>rfl
 |cons b l ih=>exact ⟨_,_,rfl,⟨rfl,by have:=b.toNat_lt;show (0:Int)<=_/\_<=(255:Int);omega⟩,ih⟩
theorem aA1 {c:Call} {t u:TypeId} {x y:SV} {ts:List TypeId} (hexec: ∀(a:Act),execOp a.eval o=Go.builtin .copy c.argTypes o.type (c.args.map fun| .const _=>true|_=>false) (c.args.map a.eval))
  (hargs: ∀(ρ:aL) (T:Nat->Prop) (a:Act) (w:World),(∀x,x∈o.op.operands->rel ρ T w (eval st.tmps x) (a.eval x))->aX ρ T w [x,y] (c.args.map a.eval).toList)
  (hts:c.argTypes.toList=t::u::ts) (h:aDP env t u x y st K):cD P st o K:=by
 have ha0:c.argTypes[0]? =some t:=by rw [<- bt,hts];rfl
 unfold aDP at h
 split at h
 case h_2=>exact h.elim
 rename_i ti tu ht hu
 split at h
 case h_3=>exact h.elim
 case h_2=>
  rename_i e ek id off sz len hk hk'
  split at h
  case h_2=>exact h.elim
  rename_i te hte
  cases hs:Nat.beq sz te.size with
  |false=>rw [hs] at h;exact h.elim
  |true=>
  rw [hs] at h
  simp only [ar] at h
  split at h
  case h_2=>exact h.elim
  rename_i e' sz' len' g n g2 rd q hl hy
  cases hz:Nat.beq sz' sz with
  |false=>rw [hz] at h;exact h.elim
  |true=>
  rw [hz] at h
  obtain rfl:=ai hz
  obtain ⟨hg,h⟩:=(show _/\If _ _ from h)
  obtain ⟨hc,h⟩:=If.elim h
  simp only [af,ak] at hc
  exact VJ htt hexec hargs hts ht hk hte rfl (ai hs) hl hy rfl hg hc.1 hc.2 h
 rename_i e id off len cap s hk hk'
 split at h
 case h_2=>exact h.elim
 rename_i te hte
 have hT:=cK (htt _ _ ht) hk
 cases hs1:Nat.beq te.size 1 with
 |false=>rw [hs1] at h;exact h.elim
 |true=>
 rw [hs1] at h
 simp only [ar] at h
 split at h
 case h_2=>exact h.elim
 rename_i e' cs hl
 split at h
 case h_2=>exact h.elim
 rename_i cs' hp
 refine ⟨_,_,_,_,_,h,av _, ?_,jF.one,by simp,fun ρ T a w next Q hr hb _ _ _ hnext=> ?_⟩
 ·intro i hi
  simp only [aq,cq,false_or] at hi
  subst hi;exact ⟨_,hl⟩
 ·obtain ⟨v1,r1,e1,h1,v2,r2,e2,h2,e3⟩:=hargs ρ T a w hr
  have e3':r2=[]:=e3
  subst e3';subst e2
  have hag:c.args.map a.eval= #[v1,v2]:=by apply fw;exact e1
  obtain ⟨⟨b,j1,rfl⟩,_⟩:=h1
  obtain ⟨rfl,hsz⟩:=h2
  obtain ⟨sb,b',h4,h5,hTb,h6⟩:=hb id (.inr (by simp))
  rw [hl] at h4;cases h4
  rw [j1] at h5;cases h5
  obtain ⟨vs,h7,h8⟩:=h6
  have hcell:=LH (ρ:=ρ) (T:=T) (w:=w) s len
  obtain ⟨h9,h10⟩:=pU off hp h8 hcell
  have hl1:=bV h8
  have hl2:=bV hcell
  generalize hn:((s.data.toList.take len).map fun b=>Value.int .u8 b.toNat)=news at hcell h10 hl2
  have hfit:off+news.length<=vs.size:=by
   rw [<- hl2];simp at hl1;omega
  have hone: ∀v∈news,v.oneCell'=true:=fun v hv=>by
   rw [<- hn] at hv
   obtain ⟨_,_,rfl⟩:=fa.1 hv
   rfl
  have hcl:((s.extract 0 (Nat.min s.size len)).data.map fun b=>Value.int .u8 b.toNat).toList=news:=by
   have hmin:(s.extract 0 (Nat.min s.size len)).data.toList=s.data.toList.take len:=by
    rw [ByteArray.data_extract,Array.toList_extract]
    simp only [List.extract_eq_take_drop,gq,dk]
    show s.data.toList.take (Nat.min s.data.size len)=_
    rw [<- fe]
    rcases Nat.le_total s.data.toList.length len with h|h
    ·rw [show Nat.min s.data.toList.length len=s.data.toList.length from Nat.min_eq_left h,gz,gc h]
    ·rw [show Nat.min s.data.toList.length len=len from Nat.min_eq_right h]
   rw [gj,hmin]
   exact hn
  have hst:=gT (P:=P) (o:=off) news 0 vs w h7 (by simpa using hfit) hone
  have hu1: ∀w,(Go.underlying t).run P w= .ok (.slice e) w:=ej hT
  have hrun:(execOp a.eval o).run P w= .ok (.value (.int .i64 (Nat.min s.size len))) (bJ w b (bI vs.toList off news).toArray e'):=by
   rw [hexec,hag]
   show (do Pure.pure (Next.value (<- Builtin.copy_ c.argTypes o.type #[_,_]))).run P _=_
   have:(Builtin.copy_ c.argTypes o.type #[.slice (some ⟨b,off,none⟩) len cap,.string s]).run P w= .ok (.int .i64 (Nat.min s.size len)) (bJ w b (bI vs.toList off news).toArray e'):=by
    simp only [Builtin.copy_,ha0,List.getElem?_toArray,cv,ff,Sem.run_bind,hu1,Result.andThen_ok,Builtin.lenOf,Sem.run_pure,(htt _ _ hte).sizeOf,Builtin.firstCells,hcl]
    rw [hst]
    simp [goInt]
   rw [Sem.run_bind,this];rfl
  refine bR hrun (hnext _ _ ρ T ?_)
  have hG:bG (fun c=>c=b) w (bJ w b (bI vs.toList off news).toArray e'):=
   bG.put h7 (by rw [cg,gV (by simpa using hfit)];simp) _ rfl
  have hGT:bG T w (bJ w b (bI vs.toList off news).toArray e'):=
   hG.mono fun c _ hc=>by rw [hc];exact hTb
  exact {
   names:=fun _ _ h=>h
   only:=fun _ _ h=> .inl h
   val:=⟨rfl,by
    have:=Nat.min_le_left s.size len
    show (-9223372036854775808:Int)<=((Nat.min s.size len:Nat):Int)/\((Nat.min s.size len:Nat):Int)<=(9223372036854775807:Int)
    have h':Nat.min s.size len<=s.size:=this
    omega⟩
   turned:=fun i sb hi=>by
    simp only [aq,bn,an] at hi
    obtain ⟨rfl,rfl⟩:=hi
    exact ⟨b,j1,hTb,_,dY (bk.1 h7).1,by
     simpa using bB (fun _ _ h=>h) (fun _ _ h=>h) hGT _ _ h10⟩
   keys:=fun i ob hi=>by
    simp only [aq,bn] at hi
    left;simp [hi.1]
   cover:=fun i hi=>by obtain rfl:=aq.1 hi;exact ⟨_,aq.2 rfl⟩
   fresh:=fun i b h1 h2 _=>by omega
   inj:=fun i j b _ h1 h2 _ _ _=>by omega
   grow:=hG.mono fun c _ hc=>⟨id,by simp,by rw [hc];exact j1⟩
   tback:=fun _ _ h=>h
   below:=fun i b h1 h2 _=>by omega
   tkeep:=fun _ _ h=> .inl h}
theorem K8{c:Call}{b:Builtin}(ho:o.op= .call c)(hc:c.callee= .builtin b)(h:DL env b c.argTypes.toList (c.args.toList.map (eval st.tmps)) st K):cD P st o K:=by
 have hexec: ∀(a:Act),execOp a.eval o=Go.builtin b c.argTypes o.type (c.args.map fun| .const _=>true|_=>false) (c.args.map a.eval):=by
  intro a
  simp only [execOp,ho,resolve,hc,invoke]
  rfl
 have hargs: ∀(ρ:aL) (T:Nat->Prop) (a:Act) (w:World),(∀x,x∈o.op.operands->rel ρ T w (eval st.tmps x) (a.eval x))->
   aX ρ T w (c.args.toList.map (eval st.tmps)) (c.args.map a.eval).toList:=by
  intro ρ T a w hr
  rw [gj]
  refine sC _ fun x hx=>hr x ?_
  simp only [ho,Op.operands,Call.operands,hc]
  simpa using hx
 unfold DL at h
 split at h
 ·rename_i t u ts s x hts hxs
  have ht2: ∃tl:List TypeId,c.argTypes.toList=t::u::tl:=⟨ts,hts⟩
  exact OA htt hexec (fun ρ T a w hr=>by
   have h1:=hargs ρ T a w hr
   rw [hxs] at h1
   exact h1) hts h
 ·rename_i t ts x hts hxs
  exact TZ htt hexec (fun ρ T a w hr=>by
   have h1:=hargs ρ T a w hr
   rw [hxs] at h1
   exact h1) hts h
 ·rename_i t u ts x y hts hxs
  exact aA1 htt hexec (fun ρ T a w hr=>by
   have h1:=hargs ρ T a w hr
   rw [hxs] at h1
   exact h1) hts h
 ·rename_i t ts x hts hxs
  have len_case: ∀(n:Nat) (p:TK->Bool),K (.int .i64 n) [] st.nxt [] []->(∀(ρ:aL) (T:Nat->Prop) (w:World) (y:Value),rel ρ T w x y->
    (Builtin.len_ c.argTypes o.type #[y]).run P w= .ok (.int .i64 n) w/\n<9223372036854775808)->cD P st o K:=by
   intro n p hK hl
   refine cD.pure hK (gY.pure fun ρ T a w hr=> ?_)
   have h1:=hargs ρ T a w hr
   rw [hxs] at h1
   obtain ⟨y,r,h2,h3,h4⟩:=h1
   have h4':r=[]:=h4
   subst h4'
   have h5:c.args.map a.eval= #[y]:=by apply fw;exact h2
   obtain ⟨h6,h7⟩:=hl ρ T w y h3
   refine ⟨.int .i64 n, ?_,rfl, ?_⟩
   ·rw [hexec,h5];simp only [Go.builtin,Sem.run_bind,h6];rfl
   ·show (-9223372036854775808:Int)<=_/\_<=(9223372036854775807:Int);omega
  have ht0:c.argTypes[0]? =some t:=by rw [<- bt,hts];rfl
  have slice_case: ∀(n:Nat),(bif dI env.tt t kN then K (.int .i64 n) [] st.nxt [] [] else False)->
    (∀(ρ:aL) (T:Nat->Prop) (w:World) (y:Value),rel ρ T w x y->(∃a m,y= .slice a n m)/\n<9223372036854775808)->cD P st o K:=by
   intro n hK hy
   cases hki:dI env.tt t kN with
   |false=>rw [hki] at hK;exact hK.elim
   |true=>
    rw [hki] at hK
    obtain ⟨ti,ht,hk⟩:=dS hki
    obtain ⟨e,hkb⟩: ∃e,ti.kind= .slice e:=by cases hkk:ti.kind<;>rw [hkk] at hk<;>first|exact ⟨_,rfl⟩|cases hk
    refine len_case n (fun _=>true) hK fun ρ T w y hr=> ?_
    obtain ⟨⟨a,m,rfl⟩,hn⟩:=hy ρ T w y hr
    have hu: ∀w,(Go.underlying t).run P w= .ok (.slice e) w:=fun w=>by simp [Go.underlying,cK (htt _ _ ht) hkb]
    refine ⟨?_,hn⟩
    simp [Builtin.len_,ht0,hu,goInt]
  split at h
  ·exact slice_case _ h fun ρ T w y hr=>by obtain ⟨a,c,rfl,h2,_⟩:=hr;exact ⟨⟨_,_,rfl⟩,h2.2.1⟩
  ·exact slice_case _ h fun ρ T w y hr=>by obtain ⟨b,c,_,rfl,h2,h3,_⟩:=hr;exact ⟨⟨_,_,rfl⟩,by omega⟩
  ·exact slice_case _ h fun ρ T w y hr=>by obtain ⟨⟨b,_,rfl⟩,h2⟩:=hr;exact ⟨⟨_,_,rfl⟩,h2⟩
  ·exact slice_case 0 h fun ρ T w y hr=>by have h':y= .slice none 0 0:=hr;rw [h'];exact ⟨⟨_,_,rfl⟩,by decide⟩
  ·exact slice_case 0 h fun ρ T w y hr=>by obtain ⟨a,c,rfl⟩:=hr;exact ⟨⟨_,_,rfl⟩,by decide⟩
  ·rename_i s
   cases hki:dI env.tt t w5 with
   |false=>rw [hki] at h;exact h.elim
   |true=>
    rw [hki] at h
    obtain ⟨ti,ht,hk⟩:=dS hki
    have hkb:ti.kind= .string:=by cases hkk:ti.kind<;>rw [hkk] at hk<;>first|rfl|cases hk
    refine len_case s.size (fun _=>true) h fun ρ T w y hr=> ?_
    obtain ⟨rfl,hs⟩:=hr
    have hu: ∀w,(Go.underlying t).run P w= .ok .string w:=fun w=>by simp [Go.underlying,gL (htt _ _ ht) hkb]
    exact ⟨by simp [Builtin.len_,ht0,hu,goInt],hs⟩
  ·exact h.elim
 ·rename_i k a0 l hxs
  split at h
  ·rename_i n hn
   refine cD.pure h (gY.pure fun ρ T a w hr=> ?_)
   have h1:=hargs ρ T a w hr
   rw [hxs] at h1
   obtain ⟨y,r,h2,⟨rfl,ha⟩,h4⟩:=h1
   obtain ⟨h5,h6⟩:=CX (P:=P) l true a0 n r hn h4 ha
   refine ⟨.int k n, ?_,rfl,h6⟩
   simp only [if_true] at h5
   rw [hexec]
   simp only [Go.builtin,Builtin.max_,h2,Sem.run_bind,h5]
   rfl
  ·exact h.elim
 ·rename_i k a0 l hxs
  split at h
  ·rename_i n hn
   refine cD.pure h (gY.pure fun ρ T a w hr=> ?_)
   have h1:=hargs ρ T a w hr
   rw [hxs] at h1
   obtain ⟨y,r,h2,⟨rfl,ha⟩,h4⟩:=h1
   obtain ⟨h5,h6⟩:=CX (P:=P) l false a0 n r hn h4 ha
   refine ⟨.int k n, ?_,rfl,h6⟩
   simp only [bz,ea] at h5
   rw [hexec]
   simp only [Go.builtin,Builtin.min_,h2,Sem.run_bind,h5]
   rfl
  ·exact h.elim
 ·rename_i x hxs
  exact FL hexec (fun ρ T a w hr=>by
   have h1:=hargs ρ T a w hr
   rw [hxs] at h1
   exact h1) rfl h
 ·rename_i t u p n hts hxs
  exact yW htt hexec (fun ρ T a w hr=>by
   have h1:=hargs ρ T a w hr
   rw [hxs] at h1
   exact h1) hts h
 ·exact h.elim
end
end Go.Se
namespace Go.Se
variable {P:Program}
abbrev KC :=SV->List (Option SB)->List Nat->Prop
structure kJ (ρ:aL) (T:Nat->Prop) (w:World) (σ:List (Option SB)) (v:SV) (σ':List (Option SB)) (d:List Nat) (ρ':aL) (T':Nat->Prop) (w':World) (x:Value):Prop where
 names: ∀p b,ρ p=some b->ρ' p=some b
 only: ∀p b,ρ' p=some b->p<σ'.length
 len:σ.length<=σ'.length
 val:rel ρ' T' w' v x
 store: ∀p sb,σ'[p]? =some (some sb)-> ∃b,ρ' p=some b/\T' b/\fV ρ' T' w' sb b
 fresh: ∀p b,σ.length<=p->ρ' p=some b->w.heap.size<=b\/ ∃q,q∈d/\σ'[q]? =some none/\ρ q=some b
 inj: ∀p q b,σ.length<=p->σ.length<=q->ρ' p=some b->ρ' q=some b->p=q
 dirty: ∀p,p∈d->p<σ.length
 grow:bG (fun b=> ∃p,p∈d/\ρ p=some b) w w'
 tback: ∀b,b<w.heap.size->T' b->T b
 below: ∀p b,ρ' p=some b->b<w'.heap.size
 tkeep: ∀b,b<w.heap.size->T b->T' b\/ ∃q,q∈d/\σ'[q]? =some none/\ρ q=some b
def aF7(P:Program)(k:FuncId)(vals:Array Value)(w:World)(R:Value->World->Prop):Prop:=
 (∃fn,P.funcs[k]? =some fn/\fn.body.isNone=false/\(fn.name== "runtime.NumGoroutine")=false/\Calls P k vals w fun e w'=> ∃x,e= .returned x/\R x w')\/
 (∃x w',(callFunc k vals).run P w= .ok (.value x) w'/\R x w')
structure X9 (P:Program) (n:Nat) (ρ:aL) (T:Nat->Prop) (w:World):Prop where
 low: ∀p b,ρ p=some b->p<n/\b<w.heap.size
 inv:Inv P T w
instance (P:Program) (n:Nat) (ρ:aL) (T:Nat->Prop) (w:World):CoeFun (X9 P n ρ T w) (fun _=> ∀p b,ρ p=some b->p<n/\b<w.heap.size):=⟨X9.low⟩
def aE(P:Program)(k:FuncId)(xs:List SV)(σ:List (Option SB))(v:SV)(σ':List (Option SB))(d:List Nat):Prop:=
 ∀(ρ:aL) (T:Nat->Prop) (w:World) (vals:Array Value),aX ρ T w xs vals.toList->
  (∀p,p<σ.length-> ∃sb b,σ[p]? =some (some sb)/\ρ p=some b/\T b/\fV ρ T w sb b)->
  (∀i j b,ρ i=some b->ρ j=some b->i=j)->
  X9 P σ.length ρ T w->
  aF7 P k vals w fun x w'=> ∃ρ' T',kJ ρ T w σ v σ' d ρ' T' w' x
def Sat(P:Program)(k:FuncId)(xs:List SV)(σ:List (Option SB))(Φ:KC->Prop):Prop:=
 ∀K,Φ K-> ∃v σ' d,K v σ' d/\aE P k xs σ v σ' d
theorem QI{l:List Nat}{i:Nat}: ∀{k p:Nat},idx l i k=some p->k<=p/\l[p - k]? =some i:=by
 induction l with
 |nil=>intro k p h;simp [idx] at h
 |cons j l ih=>
  intro k p h
  simp only [idx] at h
  cases hb:Nat.beq j i with
  |true=>
   rw [hb] at h
   simp only [ar,an] at h
   subst h
   simp [ai hb]
  |false=>
   rw [hb] at h
   obtain ⟨h1,h2⟩:=ih h
   refine ⟨by omega, ?_⟩
   rw [show p - k=(p - (k+1))+1 by omega,ff]
   exact h2
mutual
theorem tS{T:Nat->Prop}{w:World}{ρ ρ2:aL}{f:Nat->Option Nat}(h: ∀i j b,f i=some j->ρ i=some b->ρ2 j=some b):
  ∀(a:SV) (v:Value),rel ρ T w a v->rel ρ2 T w (ren f a) v
 | .junk,_,_=>trivial
 | .int _ _,_,h=>h
 | .bool _,_,h=>h
 | .str _,_,h=>h
 | .nilp,_,h=>h
 | .ptr id off,v,⟨b,h1,h2⟩=>by
  simp only [ren]
  cases hf:f id with
  |none=>trivial
  |some j=>exact ⟨b,h _ _ _ hf h1,h2⟩
 | .eptr id i st o,v,⟨b,h1,h2⟩=>by
  simp only [ren]
  cases hf:f id with
  |none=>trivial
  |some j=>exact ⟨b,h _ _ _ hf h1,h2⟩
 | .rptr cs,v,h=>h
 | .fn g x y,v,⟨a,c,h1,h2,h3⟩=>⟨a,c,h1,kW h x _ h2,kW h y _ h3⟩
 | .nilfn,_,h=>h
 | .agg cs,v,⟨a,h1,h2⟩=>⟨a,h1,kW h cs _ h2⟩
 | .tup cs,v,⟨a,h1,h2⟩=>⟨a,h1,kW h cs _ h2⟩
 | .nils,_,h=>h
 | .emp,_,h=>h
 | .arr id off len cap,v,⟨⟨b,h1,h2⟩,h3⟩=>by
  simp only [ren]
  cases hf:f id with
  |none=>trivial
  |some j=>exact ⟨⟨b,h _ _ _ hf h1,h2⟩,h3⟩
 | .own id off st len,v,⟨b,c,h1,h2⟩=>by
  simp only [ren]
  cases hf:f id with
  |none=>trivial
  |some j=>exact ⟨b,c,h _ _ _ hf h1,h2⟩
 | .ro len st g,v,h=>h
 | .nilI,_,h=>h
 | .iface t x,v,⟨y,h1,h2⟩=>⟨y,h1,tS h x y h2⟩
 | .yld id,v,⟨b,h1,h2⟩=>by
  simp only [ren]
  cases hf:f id with
  |none=>trivial
  |some j=>exact ⟨b,h _ _ _ hf h1,h2⟩
theorem kW{T:Nat->Prop}{w:World}{ρ ρ2:aL}{f:Nat->Option Nat}(h: ∀i j b,f i=some j->ρ i=some b->ρ2 j=some b):
  ∀(l:List SV) (m:List Value),aX ρ T w l m->aX ρ2 T w (ren.renL f l) m
 | [],_,h=>h
 |a::l,_m,⟨v,r,h1,h2,h3⟩=>⟨v,r,h1,tS h a v h2,kW h l r h3⟩
end
theorem zB(f:Nat->Option Nat): ∀(l:mQ) (t:Nat),get (OL f l) t=ren f (get l t)
 | [],t=>rfl
 |(u,v)::l,t=>by
  simp only [OL,get]
  cases Nat.beq u t
  ·exact zB f l t
  ·rfl
theorem vA {T:Nat->Prop} {w:World} {ρ ρ2:aL} {f:Nat->Option Nat} (h: ∀i j b,f i=some j->ρ i=some b->ρ2 j=some b) {sb:SB} {b:Nat}
  (hb:fV ρ T w sb b):fV ρ2 T w (mB f sb) b:=by
 cases sb with
 |cells e cs=>obtain ⟨vs,h1,h2⟩:=hb;exact ⟨vs,h1,kW h _ _ h2⟩
 |lst e cs=>obtain ⟨vs,h1,m,r,h2,h3⟩:=hb;exact ⟨vs,h1,m,r,h2,kW h _ _ h3⟩
 |row e st len g=>exact hb
 |loop tm nt ps as bd pend=>obtain ⟨r,h1,h2,h3,h4,h5,h6,h7⟩:=hb;exact ⟨r,h1,h2,h3,h4,h5,h6,fun t=>by rw [zB];exact tS h _ _ (h7 t)⟩
 |iter s pos=>exact hb
theorem mN{l:List Nat}{i:Nat}:l.any (Nat.beq i)=true↔i∈l:=by
 rw [List.any_eq_true]
 constructor
 ·rintro ⟨x,hx,h⟩;rw [ai h];exact hx
 ·intro h;exact ⟨i,h,fb i⟩
theorem BD{l:List Nat}(h:l.Nodup){i j:Nat}(hi:i<l.length)(hj:j<l.length)(e:l[i]=l[j]):i=j:=by
 have hp:=List.pairwise_iff_getElem.1 h
 rcases Nat.lt_trichotomy i j with hlt|heq|hgt
 ·exact absurd e (hp i j hi hj hlt)
 ·exact heq
 ·exact absurd e.symm (hp j i hj hi hgt)
theorem sL{s:eD}: ∀(n:Nat) (l acc:List Nat),acc.Nodup->(∀i∈acc,∃sb,aO s i=some sb)->
  (iZ s n l acc).Nodup/\ ∀i∈iZ s n l acc,∃sb,aO s i=some sb
 |0,l,acc,h1,h2=>by simpa [iZ] using ⟨h1,h2⟩
 |n+1,[],acc,h1,h2=>by simpa [iZ] using ⟨h1,h2⟩
 |n+1,i::l,acc,h1,h2=>by
  simp only [iZ]
  cases hb:acc.any (Nat.beq i) with
  |true=>exact sL n l acc h1 h2
  |false=>
   simp only [ap]
   have hni:i∉acc:=by rw [<- mN,hb];simp
   split
   ·rename_i sb hl
    refine sL n _ _ ?_ ?_
    ·rw [List.nodup_append]
     refine ⟨h1,by simp, ?_⟩
     intro a ha b hb'
     simp only [aq] at hb'
     rintro rfl
     exact hni (hb'▸ha)
    ·intro j hj
     rcases ct.1 hj with hj|hj
     ·exact h2 j hj
     ·simp only [aq] at hj;subst hj;exact ⟨sb,hl⟩
   ·exact sL n l acc h1 h2
theorem jV{f:Nat->Option Nat}{F:List Nat}{nxt:Nat}{d:List Nat}: ∀(σ:List (Option SB)) (p:Nat) (id:Nat) (ob:Option SB),
  (id,ob)∈eP f F nxt d p σ-> ∃q o,p<=q/\σ[q - p]? =some o/\ob=o.map (mB f)/\
   ((F[q]? =some id/\q∈d)\/(F[q]? =none/\id=nxt+(q - F.length)))
 | [],p,id,ob,h=>by simp [eP] at h
 |b::l,p,id,ob,h=>by
  have next:(id,ob)∈eP f F nxt d (p+1) l-> ∃q o,p<=q/\(b::l)[q - p]? =some o/\ob=o.map (mB f)/\
   ((F[q]? =some id/\q∈d)\/(F[q]? =none/\id=nxt+(q - F.length))):=by
   intro h
   obtain ⟨q,o,h1,h2,h3⟩:=jV l (p+1) id ob h
   refine ⟨q,o,by omega, ?_,h3⟩
   rw [show q - p=(q - (p+1))+1 by omega,ff]
   exact h2
  simp only [eP] at h
  split at h
  ·rename_i i hi
   cases hd:d.any (Nat.beq p) with
   |false=>rw [hd] at h;exact next h
   |true=>
    rw [hd] at h
    simp only [ar,cb,bn] at h
    rcases h with ⟨rfl,rfl⟩|h
    ·exact ⟨p,b,av _,by simp,rfl,.inl ⟨hi,mN.1 hd⟩⟩
    ·exact next h
  ·rename_i hi
   simp only [cb,bn] at h
   rcases h with ⟨rfl,rfl⟩|h
   ·exact ⟨p,b,av _,by simp,rfl,.inr ⟨hi,rfl⟩⟩
   ·exact next h
theorem qF{f:Nat->Option Nat}{F:List Nat}{nxt:Nat}{d:List Nat}: ∀(σ:List (Option SB)) (p q i:Nat),
  p<=q->σ[q - p]? =some none->F[q]? =some i->q∈d->(i,none)∈eP f F nxt d p σ
 | [],p,q,i,_,h,_,_=>by simp at h
 |b::l,p,q,i,hp,h,hi,hd=>by
  simp only [eP]
  by_cases e:q=p
  ·subst e
   simp only [Nat.sub_self,cv,an] at h
   subst h
   rw [hi]
   simp only [mN.2 hd,ar,ie,cb,true_or]
  ·have ih:=qF (f:=f) (nxt:=nxt) l (p+1) q i (by omega) (by rw [show q - p=(q - (p+1))+1 by omega,ff] at h;exact h) hi hd
   split
   ·cases d.any (Nat.beq p)
    ·exact ih
    ·exact bm _ ih
   ·exact bm _ ih
theorem t8{f:Nat->Option Nat}{F:List Nat}{nxt:Nat}{d:List Nat}: ∀(σ:List (Option SB)) (p q i:Nat),
  p<=q->q - p<σ.length->F[q]? =some i->q∈d-> ∃o,(i,o)∈eP f F nxt d p σ
 | [],p,q,i,_,h,_,_=>by simp at h
 |b::l,p,q,i,hp,h,hi,hd=>by
  simp only [eP]
  by_cases e:q=p
  ·subst e
   rw [hi]
   exact ⟨_,by simp only [mN.2 hd,ar];exact bq⟩
  ·obtain ⟨o,ih⟩:=t8 (f:=f) (nxt:=nxt) l (p+1) q i (by omega) (by simp only [az] at h;omega) hi hd
   refine ⟨o, ?_⟩
   split
   ·cases d.any (Nat.beq p)
    ·exact ih
    ·exact bm _ ih
   ·exact bm _ ih
section
variable {st:St} {o:Oper} {K:KV} {env:Env}
theorem DW{L:List Nat}{v:SV}{σ':List (Option SB)}{d:List Nat}{F:List Nat}(hF:iZ st.store 200 L []=F):
  st.nxt<=st.nxt+(σ'.length - F.length)/\(∀id,id∈F\/id∈(d.filterMap fun p=>F[p]?)-> ∃sb,aO st.store id=some sb)/\jF st (eP (iV F st.nxt) F st.nxt d 0 σ')/\
  (∀id o,(id,o)∈eP (iV F st.nxt) F st.nxt d 0 σ'->id∈(d.filterMap fun p=>F[p]?)\/(st.nxt<=id/\id<st.nxt+(σ'.length - F.length)))/\
  ∀(ρ:aL) (T:Nat->Prop) (w:World),
   (∀id,id∈F\/id∈(d.filterMap fun p=>F[p]?)-> ∃sb b,aO st.store id=some sb/\ρ id=some b/\T b/\fV ρ T w sb b)->
   (∀i j b,i∈F\/i∈(d.filterMap fun p=>F[p]?)->j∈F\/j∈(d.filterMap fun p=>F[p]?)->ρ i=some b->ρ j=some b->i=j)->
   Low P ρ T w->(∀id,st.nxt<=id->id<st.nxt+(σ'.length - F.length)->ρ id=none)->
   (∀i j b:Nat,idx F i 0=some j->ρ i=some b->((F[j]?).bind ρ)=some b)/\
   (∀p,p<(F.map fun i=>(aO st.store i).map (mB fun i=>idx F i 0)).length-> ∃sb b,(F.map fun i=>(aO st.store i).map (mB fun i=>idx F i 0))[p]? =some (some sb)/\((F[p]?).bind ρ)=some b/\T b/\fV (fun p=>(F[p]?).bind ρ) T w sb b)/\
   (∀i j b:Nat,((F[i]?).bind ρ)=some b->((F[j]?).bind ρ)=some b->i=j)/\
   X9 P (F.map fun i=>(aO st.store i).map (mB fun i=>idx F i 0)).length (fun p=>(F[p]?).bind ρ) T w/\
   ∀x w',(∃ρ' T',kJ (fun p=>(F[p]?).bind ρ) T w (F.map fun i=>(aO st.store i).map (mB fun i=>idx F i 0)) v σ' d ρ' T' w' x)->
    ∃ρ'' T',gX ρ T w st.nxt (st.nxt+(σ'.length - F.length)) (ren (iV F st.nxt) v) (eP (iV F st.nxt) F st.nxt d 0 σ') (d.filterMap fun p=>F[p]?) ρ'' T' w' x:=by
 obtain ⟨hnd,halive⟩:=sL (s:=st.store) 200 L [] List.nodup_nil (by simp)
 rw [hF] at hnd halive
 refine ⟨Nat.le_add_right _ _, ?_, ?_, ?_, ?_⟩
 ·intro id hid
  rcases hid with hid|hid
  ·exact halive id hid
  ·obtain ⟨p,_,hp⟩:=gn.1 hid
   exact halive id (ef hp)
 ·intro hlt id x y hx hy
  obtain ⟨q,o1,_,hq,rfl,hc1⟩:=jV _ _ _ _ hx
  obtain ⟨q',o2,_,hq',rfl,hc2⟩:=jV _ _ _ _ hy
  rw [dk] at hq hq'
  have ge: ∀q,F[q]? =none->F.length<=q:=by
   intro q h6
   rcases Nat.lt_or_ge q F.length with h|h
   ·rw [be h] at h6;cases h6
   ·exact h
  have hqq:q=q':=by
   rcases hc1 with ⟨h1,_⟩|⟨h1,h2⟩<;>rcases hc2 with ⟨h3,_⟩|⟨h3,h4⟩
   ·obtain ⟨hi',hx'⟩:=ca.1 h1
    obtain ⟨hj',hy'⟩:=ca.1 h3
    exact BD hnd hi' hj' (hx'.trans hy'.symm)
   ·obtain ⟨sb,hsb⟩:=halive id (ef h1)
    have:=hlt id sb hsb
    omega
   ·obtain ⟨sb,hsb⟩:=halive id (ef h3)
    have:=hlt id sb hsb
    omega
   ·have:=ge q h1;have:=ge q' h3;omega
  subst hqq
  rw [hq] at hq'
  cases hq'
  rfl
 ·intro id ob hid
  obtain ⟨q,o',_,hq,_,hcase⟩:=jV _ _ _ _ hid
  rw [dk] at hq
  rcases hcase with ⟨h6,h7⟩|⟨h6,h7⟩
  ·left
   exact gn.2 ⟨q,h7,h6⟩
  ·right
   have hq':=(ca.1 hq).1
   have:F.length<=q:=by
    rcases Nat.lt_or_ge q F.length with h|h
    ·rw [be h] at h6;cases h6
    ·exact h
   omega
 ·intro ρ T w hb hinj hold hnew
  have hσlen:(F.map fun i=>(aO st.store i).map (mB fun i=>idx F i 0)).length=F.length:=by simp
  let ρc:aL:=fun p=>(F[p]?).bind ρ
  have hren: ∀i j b,(fun i=>idx F i 0) i=some j->ρ i=some b->ρc j=some b:=by
   intro i j b hi hρ
   obtain ⟨_,hj⟩:=QI hi
   show (F[j]?).bind ρ=some b
   rw [dk] at hj
   rw [hj];exact hρ
  refine ⟨hren, ?_, ?_, ?_, ?_⟩
  ·intro p hp
   rw [hσlen] at hp
   obtain ⟨sb,b,h3,h4,h5,h6⟩:=hb F[p] (.inl (List.getElem_mem hp))
   refine ⟨mB (fun i=>idx F i 0) sb,b, ?_, ?_,h5,vA hren h6⟩
   ·rw [fm,be hp,dq,h3];rfl
   ·show (F[p]?).bind ρ=some b
    rw [be hp];exact h4
  ·intro i j b hi hj
   obtain ⟨x,hx,hxb⟩:=dp.1 hi
   obtain ⟨y,hy,hyb⟩:=dp.1 hj
   have hxy:=hinj x y b (.inl (ef hx)) (.inl (ef hy)) hxb hyb
   subst hxy
   obtain ⟨hi',hx'⟩:=ca.1 hx
   obtain ⟨hj',hy'⟩:=ca.1 hy
   exact BD hnd hi' hj' (hx'.trans hy'.symm)
  ·exact ⟨by
    intro p b hp
    obtain ⟨x,hx,hxb⟩:=dp.1 hp
    rw [hσlen]
    exact ⟨(ca.1 hx).1,hold.low _ _ hxb⟩,hold.inv⟩
  ·rintro x w' ⟨ρ',T',hd⟩
   have hlen:F.length<=σ'.length:=by have:=hd.len;rw [hσlen] at this;exact this
   let ρ'':aL:=fun id=>if st.nxt<=id/\id<st.nxt+(σ'.length - F.length) then ρ' (F.length+(id - st.nxt)) else ρ id
   have hnames: ∀id b,ρ id=some b->ρ'' id=some b:=by
    intro id b hid
    show (if _ then _ else _)=_
    rw [if_neg];·exact hid
    rintro ⟨h3,h4⟩
    rw [hnew id h3 h4] at hid;cases hid
   have hF': ∀p i,F[p]? =some i-> ∀b,ρ' p=some b->ρ i=some b:=by
    intro p i hp b hb'
    obtain ⟨sb,c',_,h4,_⟩:=hb i (.inl (ef hp))
    have:ρc p=some c':=by show (F[p]?).bind ρ=_;rw [hp];exact h4
    rw [hd.names p c' this] at hb'
    rw [h4];exact hb'
   have hback: ∀p j b,iV F st.nxt p=some j->ρ' p=some b->ρ'' j=some b:=by
    intro p j b hp hb'
    unfold iV at hp
    split at hp
    ·rename_i i hi
     cases hp
     exact hnames _ _ (hF' p _ hi b hb')
    ·rename_i hi
     cases hp
     have hp1:F.length<=p:=by
      rcases Nat.lt_or_ge p F.length with h|h
      ·rw [be h] at hi;cases hi
      ·exact h
     have hp2:=hd.only p b hb'
     show (if _ then _ else _)=_
     rw [if_pos ⟨by omega,by omega⟩,show F.length+(st.nxt+(p - F.length) - st.nxt)=p by omega]
     exact hb'
   refine ⟨ρ'',T',{
    names:=hnames
    only:=fun id b hid=> ?_
    val:=tS hback _ _ hd.val
    turned:=fun id sb hid=> ?_
    keys:=fun id ob hid=> ?_
    cover:=fun id hid=> ?_
    fresh:=fun id b h3 h4 h5=> ?_
    inj:=fun i j b h3 h4 h5 h6 h7 h8=> ?_
    grow:=hd.grow.mono fun b _ hb'=> ?_
    tback:=hd.tback
    below:=fun id b h3 h4 h5=>hd.below _ b (by rw [<- h5];exact (if_pos ⟨h3,h4⟩).symm)
    tkeep:=fun b hlt hb'=> ?_}⟩
   ·by_cases hin:st.nxt<=id/\id<st.nxt+(σ'.length - F.length)
    ·exact .inr hin
    ·left
     have:ρ'' id=ρ id:=if_neg hin
     rw [this] at hid;exact hid
   ·obtain ⟨q,ob,_,hq,hob,hcase⟩:=jV _ _ _ _ hid
    rw [dk] at hq
    cases ob with
    |none=>simp at hob
    |some sb0=>
     simp only [dq,an] at hob
     subst hob
     obtain ⟨b,h3,h4,h5⟩:=hd.store q sb0 hq
     refine ⟨b, ?_,h4,vA hback h5⟩
     apply hback q _ b _ h3
     unfold iV
     rcases hcase with ⟨h6,_⟩|⟨h6,h7⟩
     ·rw [h6]
     ·rw [h6,h7]
   ·obtain ⟨q,o',_,hq,_,hcase⟩:=jV _ _ _ _ hid
    rw [dk] at hq
    rcases hcase with ⟨h6,h7⟩|⟨h6,h7⟩
    ·left
     exact gn.2 ⟨q,h7,h6⟩
    ·right
     have hq':=(ca.1 hq).1
     have:F.length<=q:=by
      rcases Nat.lt_or_ge q F.length with h|h
      ·rw [be h] at h6;cases h6
      ·exact h
     omega
   ·obtain ⟨q,hq,hqi⟩:=gn.1 hid
    have hq1:=hd.dirty q hq
    have hq2:=hd.len
    exact t8 _ 0 q id (cn _) (by omega) hqi hq
   ·have h6:ρ' (F.length+(id - st.nxt))=some b:=by
     have:ρ'' id=ρ' (F.length+(id - st.nxt)):=if_pos ⟨h3,h4⟩
     rw [<- this];exact h5
    rcases hd.fresh _ b (by rw [hσlen];omega) h6 with h7|⟨q,h7,h8,h9⟩
    ·exact .inl h7
    ·right
     obtain ⟨i,hi,hib⟩:=dp.1 h9
     exact ⟨i,gn.2 ⟨q,h7,hi⟩,qF _ 0 q i (cn _) (by rw [dk];exact h8) hi h7,hib⟩
   ·have e1:ρ'' i=ρ' (F.length+(i - st.nxt)):=if_pos ⟨h3,h4⟩
    have e2:ρ'' j=ρ' (F.length+(j - st.nxt)):=if_pos ⟨h5,h6⟩
    rw [e1] at h7;rw [e2] at h8
    have:=hd.inj _ _ b (by rw [hσlen];omega) (by rw [hσlen];omega) h7 h8
    omega
   ·obtain ⟨p,hp,hpb⟩:=hb'
    obtain ⟨i,hi,hib⟩:=dp.1 hpb
    exact ⟨i,gn.2 ⟨p,hp,hi⟩,hib⟩
   ·rcases hd.tkeep b hlt hb' with h3|⟨q,h7,h8,h9⟩
    ·exact .inl h3
    ·right
     obtain ⟨i,hi,hib⟩:=dp.1 h9
     exact ⟨i,gn.2 ⟨q,h7,hi⟩,qF _ 0 q i (cn _) (by rw [dk];exact h8) hi h7,hib⟩
theorem F6 {L:List Nat} {v:SV} {σ':List (Option SB)} {d:List Nat} {F:List Nat} (hF:iZ st.store 200 L []=F)
  (hK:K (ren (iV F st.nxt) v) (eP (iV F st.nxt) F st.nxt d 0 σ') (st.nxt+(σ'.length - F.length)) F (d.filterMap fun p=>F[p]?))
  (hgo: ∀(ρ:aL) (T:Nat->Prop) (a:Act) (w:World) (next:Act->World->Prop) (Q:Exit->Act->World->Prop),(∀x,x∈o.op.operands->rel ρ T w (eval st.tmps x) (a.eval x))->
   (∀i j b:Nat,idx F i 0=some j->ρ i=some b->((F[j]?).bind ρ)=some b)->
   (∀p,p<(F.map fun i=>(aO st.store i).map (mB fun i=>idx F i 0)).length-> ∃sb b,(F.map fun i=>(aO st.store i).map (mB fun i=>idx F i 0))[p]? =some (some sb)/\((F[p]?).bind ρ)=some b/\T b/\fV (fun p=>(F[p]?).bind ρ) T w sb b)->
   (∀i j b:Nat,((F[i]?).bind ρ)=some b->((F[j]?).bind ρ)=some b->i=j)->
   X9 P (F.map fun i=>(aO st.store i).map (mB fun i=>idx F i 0)).length (fun p=>(F[p]?).bind ρ) T w->
   (∀x w',(∃ρ' T',kJ (fun p=>(F[p]?).bind ρ) T w (F.map fun i=>(aO st.store i).map (mB fun i=>idx F i 0)) v σ' d ρ' T' w' x)->next (a.put o.dst x) w')->wpW P o a w next Q):cD P st o K:=by
 obtain ⟨h1,h2,h3,h4,h5⟩:=DW (P:=P) (st:=st) (v:=v) (σ':=σ') (d:=d) hF
 refine ⟨_,_,_,_,_,hK,h1,h2,h3,h4,fun ρ T a w next Q hr hb hinj hold hnew hnext=> ?_⟩
 obtain ⟨k1,k2,k3,k4,k5⟩:=h5 ρ T w hb hinj hold hnew
 refine hgo ρ T a w next Q hr k1 k2 k3 k4 fun x w' hx=> ?_
 obtain ⟨ρ'',T',hd⟩:=k5 x w' hx
 exact hnext x w' ρ'' T' hd
theorem aBl {c:Call} {f:Operand} {k:FuncId} {first cap:List SV} (hs: ∀xs σ,Sat P k xs σ (env.callee k xs σ)) (ho:o.op= .call c) (hc:c.callee= .value f)
  (hf:eval st.tmps f= .fn (.func k) first cap) (h:HT env st k (first++c.args.toList.map (eval st.tmps)++cap) K):cD P st o K:=by
 unfold HT at h
 generalize hxs:first++c.args.toList.map (eval st.tmps)++cap=xs at h
 simp only at h
 generalize hF:iZ st.store 200 (ids.idsL xs) []=F at h
 obtain ⟨v,σ',d,hK,hok⟩:=hs _ _ _ h
 refine F6 hF hK fun ρ T a w next Q hr hren m1 m2 m3 hdone=> ?_
 have hfv: ∃a1 a2,a.eval f= .func (.func k) a1 a2/\aX ρ T w first a1.toList/\aX ρ T w cap a2.toList:=by
  have:=hr f (by simp [ho,Op.operands,Call.operands,hc])
  rw [hf] at this
  exact this
 obtain ⟨a1,a2,hfe,h1,h2⟩:=hfv
 have hargs:aX ρ T w xs (a1++c.args.map a.eval++a2).toList:=by
  rw [<- hxs,fd,fd]
  refine gN (gN h1 ?_) h2
  rw [gj]
  refine sC _ fun x hx=>hr x ?_
  simp only [ho,Op.operands,Call.operands,hc]
  exact Array.mem_append.2 (Or.inr (Array.mem_def.2 hx))
 have hruns:=hok (fun p=>(F[p]?).bind ρ) T w (a1++c.args.map a.eval++a2) (kW hren _ _ hargs) m1 m2 m3
 have hexec:execOp a.eval o=callFunc k (a1++c.args.map a.eval++a2):=by
  simp only [execOp,ho,resolve,hc,hfe,Deferred.ofValue]
  rfl
 rcases hruns with ⟨fn,hfn,hbody,hname,hcalls⟩|⟨x,w',hrun,hR⟩
 ·have hrun:(execOp a.eval o).run P w= .ok (.enter k (a1++c.args.map a.eval++a2)) w:=by
   rw [hexec]
   simp only [callFunc,Sem.run_bind,run_program,Result.andThen_ok,hfn,hname,bz,ea,hbody,Sem.run_pure]
  refine K7 (fun _=>AC (fun _ h=>by cases h) hrun) fun F2 n hF2=> ?_
  rw [hrun,Oper.uponIn_enter]
  refine ⟨fun hd=>(by rw [hF2.depth] at hd;cases hd),hF2.calls (hcalls.mono fun e w' he=> ?_)⟩
  obtain ⟨x,rfl,hR⟩:=he
  exact hdone x w' hR
 ·exact bR (by rw [hexec];exact hrun) (hdone x w' hR)
end
end Go.Se
namespace Go.Se
variable {P:Program}
def aLW(P:Program)(l:Nat)(vals:Array Value)(w:World)(R:Value->World->Prop):Prop:=
 ∃r:Loop,w.heap[l]? =some (.loop r)/\vals.size=r.params.size/\ ∀(F:Fence) (n:Nat),Wd F->
  RoundIn F n P l r.fn ((r.params.zip vals).foldl (fun tmps (t,a)=>tmps.setIfInBounds t a) r.tmps) r.assign r.body w fun e w'=> ∃x,e= .returned x/\R x w'
def aGB(P:Program)(xs:List SV)(σ:List (Option SB))(v:SV)(σ':List (Option SB))(d:List Nat):Prop:=
 ∀(ρ:aL) (T:Nat->Prop) (w:World) (vals:Array Value),aX ρ T w xs vals.toList->
  (∀p,p<σ.length-> ∃sb b,σ[p]? =some (some sb)/\ρ p=some b/\T b/\fV ρ T w sb b)->
  (∀i j b,ρ i=some b->ρ j=some b->i=j)->
  X9 P σ.length ρ T w->
  ∃l,ρ 0=some l/\aLW P l vals w fun x w'=> ∃ρ' T',kJ ρ T w σ v σ' d ρ' T' w' x
def aHK(P:Program)(xs:List SV)(σ:List (Option SB))(Φ:KC->Prop):Prop:=
 ∀K,Φ K-> ∃v σ' d,K v σ' d/\aGB P xs σ v σ' d
theorem wI{s:eD}: ∀(n:Nat) (l acc:List Nat),∃t,iZ s n l acc=acc++t
 |0,_,acc=>⟨[],by simp [iZ]⟩
 |n+1,[],acc=>⟨[],by simp [iZ]⟩
 |n+1,i::l,acc=>by
  simp only [iZ]
  cases acc.any (Nat.beq i) with
  |true=>exact wI n l acc
  |false=>
   simp only [ap]
   split
   ·obtain ⟨t,h⟩:=wI (s:=s) n (NL _++l) (acc++[i])
    exact ⟨[i]++t,by rw [h,bo]⟩
   ·exact wI n l acc
theorem UB{s:eD}{i:Nat}{l:List Nat}{sb:SB}(h:aO s i=some sb):(iZ s 200 (i::l) [])[0]? =some i:=by
 have e:iZ s 200 (i::l) []=iZ s 199 (NL sb++l) [i]:=by
  show (bif ([]:List Nat).any (Nat.beq i) then _ else _)=_
  simp [h]
 obtain ⟨t,ht⟩:=wI (s:=s) 199 (NL sb++l) [i]
 rw [e,ht];rfl
theorem S9 {st:St} {o:Oper} {K:KV} {env:Env} {c:Call} {f:Operand} {id:Nat} (hs: ∀xs σ,aHK P xs σ (env.round xs σ)) (ho:o.op= .call c) (hc:c.callee= .value f)
  (hf:eval st.tmps f= .yld id) (h:VF env st id (c.args.toList.map (eval st.tmps)) K):cD P st o K:=by
 unfold VF at h
 split at h
 case h_2=>exact h.elim
 rename_i tm nt ps as bd pend hl
 generalize hxs:c.args.toList.map (eval st.tmps)=xs at h
 simp only at h
 have hhead:=UB (l:=ids.idsL xs) hl
 generalize hF:iZ st.store 200 (id::ids.idsL xs) []=F at h hhead
 obtain ⟨v,σ',d,hK,hok⟩:=hs _ _ _ h
 refine F6 hF hK fun ρ T a w next Q hr hren m1 m2 m3 hdone=> ?_
 have hfv: ∃b,ρ id=some b/\a.eval f= .func (.yield b) #[] #[]:=by
  have:=hr f (by simp [ho,Op.operands,Call.operands,hc])
  rw [hf] at this
  exact this
 obtain ⟨b,hb,hfe⟩:=hfv
 have hargs:aX ρ T w xs (c.args.map a.eval).toList:=by
  rw [<- hxs,gj]
  refine sC _ fun x hx=>hr x ?_
  simp only [ho,Op.operands,Call.operands,hc]
  exact Array.mem_append.2 (Or.inr (Array.mem_def.2 hx))
 obtain ⟨l,hl0,r,hr1,hr2,hr3⟩:=hok (fun p=>(F[p]?).bind ρ) T w (c.args.map a.eval) (kW hren _ _ hargs) m1 m2 m3
 have hlb:l=b:=by
  have:((F[0]?).bind ρ)=some l:=hl0
  rw [hhead] at this
  have h2:ρ id=some l:=this
  rw [hb] at h2;cases h2;rfl
 subst hlb
 have hexec:execOp a.eval o=Instr.yield l (#[]++c.args.map a.eval++ #[]):=by
  simp only [execOp,ho,resolve,hc,hfe,Deferred.ofValue]
  rfl
 have hrun:=run_yield (P:=P) (args:= #[]++c.args.map a.eval++ #[]) hr1 (by simpa using hr2)
 rw [<- hexec] at hrun
 refine K7 (fun _=>AC (fun _ h=>by cases h) hrun) fun F2 n hF2=> ?_
 rw [hrun,Oper.uponIn_round]
 refine ⟨fun hd=>(by rw [hF2.depth] at hd;cases hd), ?_⟩
 have:=hr3 F2 (n - 1) hF2
 simp only [Array.empty_append,Array.append_empty]
 refine this.mono fun e w' he=> ?_
 obtain ⟨x,rfl,hR⟩:=he
 exact hdone x w' hR
end Go.Se
namespace Go.Se
variable {P:Program} {env:Env} {st:St} {o:Oper} {K:KV} (htt: ∀t ti,env.tt t=some ti->gJ P t ti)
include htt
omit htt in
theorem AD{ρ:aL}{T:Nat->Prop}{w:World}: ∀{cs:List SV} {m:List Value} {l:List Int},byteCells cs=some l->aX ρ T w cs m->m=l.map fun n=> .int .u8 n
 | [],m,l,h,hr=>by
  simp only [byteCells,an] at h
  subst h;exact hr
 | .int .u8 n::cs,m,l,h,hr=>by
  unfold byteCells at h
  split at h
  ·rename_i r hb
   cases h
   obtain ⟨v,q,rfl,hv,hq⟩:=hr
   rw [AD hb hq,hv.1];rfl
  ·cases h
 | .int .i8 _::_,_,_,h,_=>by cases h
 | .int .i16 _::_,_,_,h,_=>by cases h
 | .int .i32 _::_,_,_,h,_=>by cases h
 | .int .i64 _::_,_,_,h,_=>by cases h
 | .int .u16 _::_,_,_,h,_=>by cases h
 | .int .u32 _::_,_,_,h,_=>by cases h
 | .int .u64 _::_,_,_,h,_=>by cases h
 | .junk::_,_,_,h,_=>by cases h
 | .bool _::_,_,_,h,_=>by cases h
 | .str _::_,_,_,h,_=>by cases h
 | .nilp::_,_,_,h,_=>by cases h
 | .ptr _ _::_,_,_,h,_=>by cases h
 | .rptr _::_,_,_,h,_=>by cases h
 | .fn _ _ _::_,_,_,h,_=>by cases h
 | .nilfn::_,_,_,h,_=>by cases h
 | .agg _::_,_,_,h,_=>by cases h
 | .tup _::_,_,_,h,_=>by cases h
 | .nils::_,_,_,h,_=>by cases h
 | .emp::_,_,_,h,_=>by cases h
 | .arr _ _ _ _::_,_,_,h,_=>by cases h
 | .own _ _ _ _::_,_,_,h,_=>by cases h
 | .ro _ _ _::_,_,_,h,_=>by cases h
 | .nilI::_,_,_,h,_=>by cases h
 | .iface _ _::_,_,_,h,_=>by cases h
omit htt in
theorem D7 : ∀(l:List Int) (s:Array UInt8),List.foldl (fun (b:ByteArray) (a:Int)=>b.push (UInt8.ofNat a.toNat)) ⟨s⟩ l=⟨s++(l.map fun n=>UInt8.ofNat n.toNat).toArray⟩
 | [],s=>by simp
 |n::l,s=>by
  rw [List.foldl_cons,ByteArray.push,D7 l]
  simp
theorem S4{src dst:TypeId}{x:Operand}{id off len c:Nat}(ho:o.op= .convert src dst x)(hx:eval st.tmps x= .arr id off len c)(h:RP env src dst id off len st K):cD P st o K:=by
 unfold RP at h
 split at h
 ·rename_i ts td hs hd
  split at h
  ·rename_i e hk hk'
   split at h
   ·rename_i te hte
    split at h
    ·rename_i hke
     split at h
     ·rename_i ee cs hl
      split at h
      ·rename_i l hb
       cases hlen:Nat.beq l.length len with
       |false=>rw [hlen] at h;exact h.elim
       |true=>
        rw [hlen] at h
        obtain ⟨hsz,h⟩:=If.elim h
        have hlen:=ai hlen
        refine ⟨_,[],st.nxt,[id],[],h,av _, ?_,jF.nil,by simp,fun ρ T a w next Q hr hb' _ _ _ hnext=> ?_⟩
        ·intro i hi
         simp only [aq,cq,fy] at hi
         subst hi;exact ⟨_,hl⟩
        ·have h1:=hr x (by simp [ho,Op.operands])
         rw [hx] at h1
         obtain ⟨⟨b,h2,h3⟩,_⟩:=h1
         obtain ⟨sb,b',h4,h5,_,h6⟩:=hb' id (.inl (by simp))
         rw [hl] at h4;cases h4
         rw [h2] at h5;cases h5
         obtain ⟨vs,h7,h8⟩:=h6
         have hc:=jI off len h8
         have hm:=AD hb hc
         have hll:((vs.toList.drop off).take len).length=len:=by rw [hm,gu,hlen]
         have hof:off+len<=vs.size\/len=0:=by
          rw [du,dc] at hll
          have:vs.toList.length=vs.size:=by simp
          omega
         have hload:(loadCells ⟨b,off,none⟩ len).run P w= .ok ((vs.toList.drop off).take len).toArray w:=by
          rcases hof with hof|h0
          ·exact rN h7 hof
          ·subst h0;simp [loadCells,loadCellsFrom]
         have hu1: ∀w,(Go.underlying src).run P w= .ok (.slice e) w:=fun w=>by simp [Go.underlying,cK (htt _ _ hs) hk]
         have hu2: ∀w,(Go.underlying dst).run P w= .ok .string w:=fun w=>by simp [Go.underlying,gL (htt _ _ hd) hk']
         have hu3: ∀w,(Go.underlying e).run P w= .ok (.int .u8) w:=fun w=>by simp [Go.underlying,sO (htt _ _ hte) hke]
         refine bR (x:= .string (bytesOf l)) (w':=w) ?_ (hnext _ w ρ T (gX.pure ⟨rfl, ?_⟩))
         ·simp only [execOp,ho,h3,Go.convert,Sem.run_bind,hu1,hu2,hu3,Result.andThen_ok,Conv.bytesToString,hload,hm]
          simp [bytesOf,ByteArray.empty,ByteArray.emptyWithCapacity,D7];try rfl
         ·have:(bytesOf l).size=l.length:=by simp [bytesOf,ByteArray.size]
          rw [this,hlen];exact aa hsz
      ·exact h.elim
     ·exact h.elim
    ·exact h.elim
   ·exact h.elim
  ·exact h.elim
 ·exact h.elim
omit htt in
theorem kK {ρ:aL} {T:Nat->Prop} {w:World} {a:Act} {x:Option Operand} {d:Nat} {n:Int} (h:mJ (x.map (eval st.tmps)) d=some n)
  (hr: ∀y,x=some y->rel ρ T w (eval st.tmps y) (a.eval y)):(x=none/\n=d)\/ ∃y k,x=some y/\a.eval y= .int k n:=by
 cases x with
 |none=>simp only [ie,mJ,an] at h;exact .inl ⟨rfl,h.symm⟩
 |some y=>
  simp only [dq] at h
  unfold mJ at h
  split at h
  ·rename_i hn;cases hn
  ·rename_i k m hm
   cases h
   rw [an] at hm
   have:=hr y rfl
   rw [hm] at this
   exact .inr ⟨y,k,rfl,this.1⟩
  ·cases h
omit htt in
theorem qD {w:World} {a:Act} {lo hi:Option Operand} {len cap:Nat} {l h:Int} (b:Bool) (hl:(lo=none/\l=(0:Nat))\/ ∃y k,lo=some y/\a.eval y= .int k l)
  (hh:(hi=none/\h=len)\/ ∃y k,hi=some y/\a.eval y= .int k h) (h0:0<=l) (h1:l<=h) (h2:h<=cap):
  (Instr.sliceBounds b len cap (lo.map a.eval) (hi.map a.eval) none).run P w= .ok (l.toNat,h.toNat,cap) w:=by
 have hB: ∀(v:Value) (k:IntKind) (n:Int) (y:Nat) (c:BoundsCode),v= .int k n->0<=n->n<=y->(Instr.sliceBound v y c).run P w= .ok n.toNat w:=fun v k n y c hv hn hy=>by
  simp [Instr.sliceBound,hv,asIntOf,hn,hy]
 unfold Instr.sliceBounds
 rcases hh with ⟨rfl,rfl⟩|⟨y,k,rfl,hy⟩<;>rcases hl with ⟨rfl,rfl⟩|⟨z,j,rfl,hz⟩<;>simp only [ie,dq,Sem.run_bind,Sem.run_pure,Result.andThen_ok]
 ·simp
 ·rw [hB _ j l _ _ hz h0 (by omega)]
  simp
 ·rw [hB _ k h _ _ hy (by omega) (by omega)]
  simp
 ·rw [hB _ k h _ _ hy (by omega) (by omega)]
  simp only [Result.andThen_ok]
  rw [hB _ j l _ _ hz h0 (by omega)]
  simp
omit htt in
theorem UY{s:ByteArray}{l h:Nat}(hs:s.size<9223372036854775808):(s.extract l h).size<9223372036854775808:=by
 rw [ByteArray.size_extract];omega
theorem RO {t:TypeId} {x:Operand} {lo hi:Option Operand} (ho:o.op= .slice t x lo hi none)
  (h:TS env t (eval st.tmps x) (lo.map (eval st.tmps)) (hi.map (eval st.tmps)) fun v=>K v [] st.nxt [] []):cD P st o K:=by
 have hops: ∀(ρ:aL) (T:Nat->Prop) (a:Act) (w:World),(∀x,x∈o.op.operands->rel ρ T w (eval st.tmps x) (a.eval x))->
   rel ρ T w (eval st.tmps x) (a.eval x)/\(∀y,lo=some y->rel ρ T w (eval st.tmps y) (a.eval y))/\(∀y,hi=some y->rel ρ T w (eval st.tmps y) (a.eval y)):=fun ρ T a w hr=>
  ⟨hr x (by simp [ho,Op.operands]),fun y hy=>hr y (by simp [ho,Op.operands,hy]),fun y hy=>hr y (by simp [ho,Op.operands,hy])⟩
 unfold TS at h
 split at h
 ·exact h.elim
 ·rename_i ti ht
  split at h
  ·rename_i s hk hx
   split at h
   ·rename_i l hh hl hhi
    obtain ⟨hb,h⟩:=If.elim h
    simp only [af,ak] at hb
    refine cD.pure h (gY.pure fun ρ T a w hr=> ?_)
    obtain ⟨r1,r2,r3⟩:=hops ρ T a w hr
    rw [hx] at r1
    have hu: ∀w,(Go.underlying t).run P w= .ok .string w:=fun w=>by simp [Go.underlying,gL (htt _ _ ht) hk]
    have hbd:=qD (P:=P) (w:=w) (len:=s.size) (cap:=s.size) false (kK hl r2) (kK hhi r3) hb.1 hb.2.1 hb.2.2
    refine ⟨.string (s.extract l.toNat hh.toNat), ?_,rfl,UY r1.2⟩
    simp [execOp,ho,r1.1,Instr.sliceAt,Instr.slice,hu,hbd]
   ·exact h.elim
  ·rename_i e id off len cap hk hx
   split at h
   ·rename_i te hte
    split at h
    ·rename_i l hh hl hhi
     obtain ⟨hb,h⟩:=If.elim h
     simp only [af,ak] at hb
     refine cD.pure h (gY.pure fun ρ T a w hr=> ?_)
     obtain ⟨r1,r2,r3⟩:=hops ρ T a w hr
     rw [hx] at r1
     obtain ⟨⟨b,h3,h4⟩,h5⟩:=r1
     have hu: ∀w,(Go.underlying t).run P w= .ok (.slice e) w:=fun w=>by simp [Go.underlying,cK (htt _ _ ht) hk]
     have hbd:=qD (P:=P) (w:=w) (len:=len) (cap:=cap) true (kK hl r2) (kK hhi r3) hb.1.1 hb.1.2.1 hb.1.2.2
     refine ⟨.slice (some ⟨b,bif Nat.beq cap l.toNat then off else off+l.toNat*te.size,none⟩) (hh.toNat - l.toNat) (cap - l.toNat), ?_,⟨b,h3,rfl⟩,by omega⟩
     simp only [execOp,ho,h4,Instr.sliceAt,Instr.slice,ie,Sem.run_bind,hu,Result.andThen_ok,hbd,(htt _ _ hte).sizeOf,Sem.run_pure]
     by_cases hc:cap=l.toNat
     ·rw [if_pos hc,show Nat.beq cap l.toNat=true by rw [hc];exact fb _];rfl
     ·rw [if_neg hc,show Nat.beq cap l.toNat=false by rw [cf];exact fun e=>hc (ai e)]
      simp [dL]
    ·exact h.elim
   ·exact h.elim
  ·rename_i e len s g hk hx
   split at h
   ·rename_i te hte
    split at h
    ·rename_i l hh hl hhi
     split at h
     ·rename_i hs
      obtain ⟨hb,h⟩:=If.elim h
      simp only [af,ak] at hb
      have hs':=ai hs
      refine cD.pure h (gY.pure fun ρ T a w hr=> ?_)
      obtain ⟨r1,r2,r3⟩:=hops ρ T a w hr
      rw [hx] at r1
      obtain ⟨ad,c,h3,h4,h5⟩:=r1
      obtain ⟨hb1,hb2,hb3⟩:=hb
      obtain ⟨h41,h42⟩:=h4
      have ha: ∀i,i<hh.toNat - l.toNat->i+l.toNat<len:=fun i hi=>by clear h5;omega
      have hc:0<hh.toNat - l.toNat-> ¬c=l.toNat:=fun hlt=>by clear h5;omega
      have hd1:hh.toNat - l.toNat<=c - l.toNat/\hh.toNat - l.toNat<9223372036854775808:=by clear h5;omega
      have hu: ∀w,(Go.underlying t).run P w= .ok (.slice e) w:=fun w=>by simp [Go.underlying,cK (htt _ _ ht) hk]
      have hbd:=qD (P:=P) (w:=w) (len:=len) (cap:=c) true (kK hl r2) (kK hhi r3) hb1 hb2 (by omega)
      refine ⟨.slice (if c=l.toNat then ad else ad.map (·.add (l.toNat*te.size))) (hh.toNat - l.toNat) (c - l.toNat), ?_,_,_,rfl,⟨hd1.1,hd1.2,fun he=> ?_⟩,fun hlt=> ?_⟩
      ·simp only [execOp,ho,h3,Instr.sliceAt,Instr.slice,ie,Sem.run_bind,hu,Result.andThen_ok,hbd,(htt _ _ hte).sizeOf,Sem.run_pure]
      ·split at he
       ·clear h5;omega
       ·cases ad with
        |none=>rw [h42.2 rfl];exact Nat.zero_sub _
        |some a=>cases he
      ·obtain ⟨b,off,rfl,h6,h7,h8⟩:=h5 (by have:=ha 0 hlt;omega)
       refine ⟨b,off+l.toNat*te.size, ?_,h6,h7,fun i hi=> ?_⟩
       ·rw [if_neg (hc hlt)];simp [dL]
       ·have:=h8 (i+l.toNat) (ha i hi)
        rw [show off+(i+l.toNat)*s=off+l.toNat*te.size+i*s by rw [<- hs',bp,Nat.add_comm (i*s),Nat.add_assoc]] at this
        exact this
     ·exact h.elim
    ·exact h.elim
   ·exact h.elim
  ·rename_i e id off sz len hk hx
   split at h
   ·rename_i te hte
    split at h
    ·rename_i l hh hl hhi
     split at h
     ·rename_i hs
      obtain ⟨hb,h⟩:=If.elim h
      simp only [af,ak] at hb
      have hs':=ai hs
      have hu: ∀w,(Go.underlying t).run P w= .ok (.slice e) w:=fun w=>by simp [Go.underlying,cK (htt _ _ ht) hk]
      obtain ⟨⟨hb1,hb2,hb3⟩,hb4⟩:=hb
      have hrun: ∀(ρ:aL) (T:Nat->Prop) (a:Act) (w:World),(∀x,x∈o.op.operands->rel ρ T w (eval st.tmps x) (a.eval x))-> ∃b c,ρ id=some b/\len<=c/\c<9223372036854775808/\(∃vs e f,w.heap[b]? =some (.cells vs e f)/\off*sz+c*sz<=vs.size)/\
        (execOp a.eval o).run P w= .ok (.value (.slice (if c=l.toNat then some ⟨b,off*sz,none⟩ else some ⟨b,off*sz+l.toNat*te.size,none⟩) (hh.toNat - l.toNat) (c - l.toNat))) w:=fun ρ T a w hr=>by
       obtain ⟨r1,r2,r3⟩:=hops ρ T a w hr
       rw [hx] at r1
       obtain ⟨b,c,h3,h4,h5,h6,h7⟩:=r1
       have hbd:=qD (P:=P) (w:=w) (len:=len) (cap:=c) true (kK hl r2) (kK hhi r3) hb1 hb2 (by clear h7;omega)
       refine ⟨b,c,h3,h5,h6,h7, ?_⟩
       simp only [execOp,ho,h4,Instr.sliceAt,Instr.slice,ie,Sem.run_bind,hu,Result.andThen_ok,hbd,(htt _ _ hte).sizeOf,Sem.run_pure]
       by_cases hc:c=l.toNat
       ·rw [if_pos hc,if_pos hc]
       ·rw [if_neg hc,if_neg hc];simp [dL]
      split at h
      ·rename_i hlt
       have hlt:=aa hlt
       refine cD.pure h (gY.pure fun ρ T a w hr=> ?_)
       obtain ⟨b,c,h3,h5,h6,⟨vs,e1,f1,h7,h8⟩,h9⟩:=hrun ρ T a w hr
       refine ⟨_,h9,b,c - l.toNat,h3, ?_,by clear h9;omega,by clear h9;omega,vs,e1,f1,h7, ?_⟩
       ·rw [if_neg (by clear h9;omega),bp,hs']
       ·have:l.toNat*sz+(c - l.toNat)*sz=c*sz:=by rw [<- bp];congr 1;clear h9;omega
        rw [bp];clear h9;omega
      ·rename_i hlt
       have hlt:=ae hlt
       refine cD.pure h (gY.pure fun ρ T a w hr=> ?_)
       obtain ⟨b,c,h3,h5,h6,_,h9⟩:=hrun ρ T a w hr
       have hz:hh.toNat - l.toNat=0:=by clear h9;omega
       rw [hz] at h9
       exact ⟨_,h9,_,_,rfl,⟨cn _,by decide,fun he=>by split at he<;>cases he⟩,fun h0=>absurd h0 (gy 0)⟩
     ·exact h.elim
    ·exact h.elim
   ·exact h.elim
  ·rename_i n e id off hk hx
   split at h
   ·rename_i te hte
    split at h
    ·rename_i l hh hl hhi
     obtain ⟨hb,h⟩:=If.elim h
     simp only [af,ak] at hb
     refine cD.pure h (gY.pure fun ρ T a w hr=> ?_)
     obtain ⟨r1,r2,r3⟩:=hops ρ T a w hr
     rw [hx] at r1
     obtain ⟨b,h3,h4⟩:=r1
     have hu: ∀w,(Go.underlying t).run P w= .ok (.array n e) w:=fun w=>by simp [Go.underlying,i2 (htt _ _ ht) hk]
     have hbd:=qD (P:=P) (w:=w) (len:=n) (cap:=n) false (kK hl r2) (kK hhi r3) hb.1.1 hb.1.2.1 hb.1.2.2
     refine ⟨.slice (some ⟨b,bif Nat.beq n l.toNat then off else off+l.toNat*te.size,none⟩) (hh.toNat - l.toNat) (n - l.toNat), ?_,⟨b,h3,rfl⟩,by omega⟩
     simp only [execOp,ho,h4,Instr.sliceAt,ie,Sem.run_bind,hu,Result.andThen_ok,Instr.sureAddr,hbd,(htt _ _ hte).sizeOf,Sem.run_pure]
     by_cases hc:n=l.toNat
     ·rw [if_pos hc,show Nat.beq n l.toNat=true by rw [hc];exact fb _];rfl
     ·rw [if_neg hc,show Nat.beq n l.toNat=false by rw [cf];exact fun e=>hc (ai e)]
      simp [dL]
    ·exact h.elim
   ·exact h.elim
  ·exact h.elim
omit htt in
theorem Q5 {w:World} {a:Act} {lo:Option Operand} {hi mx:Operand} {len cap:Nat} {l h m:Int} {k k':IntKind} (b:Bool) (hl:(lo=none/\l=(0:Nat))\/ ∃y k,lo=some y/\a.eval y= .int k l)
  (hh:a.eval hi= .int k h) (hm:a.eval mx= .int k' m) (h0:0<=l) (h1:l<=h) (h2:h<=m) (h3:m<=cap):
  (Instr.sliceBounds b len cap (lo.map a.eval) (some (a.eval hi)) (some (a.eval mx))).run P w= .ok (l.toNat,h.toNat,m.toNat) w:=by
 have hB: ∀(v:Value) (k:IntKind) (n:Int) (y:Nat) (c:BoundsCode),v= .int k n->0<=n->n<=y->(Instr.sliceBound v y c).run P w= .ok n.toNat w:=fun v k n y c hv hn hy=>by
  simp [Instr.sliceBound,hv,asIntOf,hn,hy]
 unfold Instr.sliceBounds
 rcases hl with ⟨rfl,rfl⟩|⟨z,j,rfl,hz⟩<;>simp only [ie,dq,Sem.run_bind,Sem.run_pure]
 ·rw [hB _ k' m _ _ hm (by omega) (by omega)]
  simp only [Result.andThen_ok]
  rw [hB _ k h _ _ hh (by omega) (by omega)]
  simp
 ·rw [hB _ k' m _ _ hm (by omega) (by omega)]
  simp only [Result.andThen_ok]
  rw [hB _ k h _ _ hh (by omega) (by omega)]
  simp only [Result.andThen_ok]
  rw [hB _ j l _ _ hz h0 (by omega)]
  simp
theorem PG {t:TypeId} {x mx:Operand} {lo hi:Option Operand} (ho:o.op= .slice t x lo hi (some mx))
  (h:MS env t (eval st.tmps x) (lo.map (eval st.tmps)) (hi.map (eval st.tmps)) (eval st.tmps mx) fun v=>K v [] st.nxt [] []):cD P st o K:=by
 unfold MS at h
 split at h
 ·exact h.elim
 rename_i ti ht
 split at h
 case h_2=>exact h.elim
 rename_i e len s g hk hx
 split at h
 case h_2=>exact h.elim
 rename_i te hte
 split at h
 case h_2=>exact h.elim
 rename_i l k hh k' m hl hhi hmx
 split at h
 case h_2=>exact h.elim
 rename_i hs
 obtain ⟨hb,h⟩:=If.elim h
 simp only [af,ak] at hb
 have hs':=ai hs
 obtain ⟨hiop,rfl,hhi2⟩: ∃y,hi=some y/\eval st.tmps y= .int k hh:=by
  cases hi with
  |none=>cases hhi
  |some y=>simp only [dq,an] at hhi;exact ⟨y,rfl,hhi⟩
 refine cD.pure h (gY.pure fun ρ T a w hr=> ?_)
 have r1:=hr x (by simp [ho,Op.operands])
 have r2: ∀y,lo=some y->rel ρ T w (eval st.tmps y) (a.eval y):=fun y hy=>hr y (by simp [ho,Op.operands,hy])
 have r3:=hr hiop (by simp [ho,Op.operands])
 have r4:=hr mx (by simp [ho,Op.operands])
 rw [hx] at r1
 rw [hhi2] at r3
 rw [hmx] at r4
 obtain ⟨ad,c,h3,h4,h5⟩:=r1
 obtain ⟨hb1,hb2,hb3,hb4⟩:=hb
 obtain ⟨h41,h42⟩:=h4
 have ha: ∀i,i<hh.toNat - l.toNat->i+l.toNat<len:=fun i hi=>by clear h5;omega
 have hc:0<hh.toNat - l.toNat-> ¬m.toNat=l.toNat:=fun hlt=>by clear h5;omega
 have hd1:hh.toNat - l.toNat<=m.toNat - l.toNat/\hh.toNat - l.toNat<9223372036854775808:=by clear h5;omega
 have hu: ∀w,(Go.underlying t).run P w= .ok (.slice e) w:=fun w=>by simp [Go.underlying,cK (htt _ _ ht) hk]
 have hbd:=Q5 (P:=P) (w:=w) (len:=len) (cap:=c) true (kK hl r2) r3.1 r4.1 hb1 hb2 hb3 (by clear h5;omega)
 refine ⟨.slice (if m.toNat=l.toNat then ad else ad.map (·.add (l.toNat*te.size))) (hh.toNat - l.toNat) (m.toNat - l.toNat), ?_,_,_,rfl,⟨hd1.1,hd1.2,fun he=> ?_⟩,fun hlt=> ?_⟩
 ·simp only [execOp,ho,h3,Instr.sliceAt,Instr.slice,dq,Sem.run_bind,hu,Result.andThen_ok,hbd,(htt _ _ hte).sizeOf,Sem.run_pure]
 ·split at he
  ·clear h5;omega
  ·cases ad with
   |none=>have:=h42.2 rfl;clear h5;omega
   |some a=>cases he
 ·obtain ⟨b,off,rfl,h6,h7,h8⟩:=h5 (by have:=ha 0 hlt;omega)
  refine ⟨b,off+l.toNat*te.size, ?_,h6,h7,fun i hi=> ?_⟩
  ·rw [if_neg (hc hlt)];simp [dL]
  ·have:=h8 (i+l.toNat) (ha i hi)
   rw [show off+(i+l.toNat)*s=off+l.toNat*te.size+i*s by rw [<- hs',bp,Nat.add_comm (i*s),Nat.add_assoc]] at this
   exact this
omit htt in
theorem yT{T:Nat->Prop}{w:World}{b:Nat}: ∀(l m:List SV) (o:Nat),fJ T w l b o->fJ T w m b (o+l.length)->fJ T w (l++m) b o
 | [],m,o,_,h=>by simpa using h
 |a::l,m,o,⟨h1,h2⟩,h=>⟨h1,yT l m (o+1) h2 (by rw [az] at h;rw [show o+1+l.length=o+(l.length+1) by omega];exact h)⟩
omit htt in
theorem NF{T:Nat->Prop}{w:World}{b off sz:Nat}{g:Nat->List SV}: ∀(n:Nat),EI g sz n=true->(∀i,i<n->fJ T w (g i) b (off+i*sz))->(GJ g n).length=n*sz/\fJ T w (GJ g n) b off
 |0,_,_=>⟨by simp [GJ],trivial⟩
 |n+1,hl,h=>by
  simp only [EI,af] at hl
  have hgl:=ai hl.1
  obtain ⟨h1,h2⟩:=NF n hl.2 fun i hi=>h i (by omega)
  refine ⟨by simp only [GJ,au,h1,hgl,bp,cj], ?_⟩
  simp only [GJ]
  exact yT _ _ _ h2 (by rw [h1];exact h n (by omega))
theorem LM{t:TypeId}{x:Operand}(ho:o.op= .sliceToArrayPointer t x)(h:EW env t (eval st.tmps x) fun v=>K v [] st.nxt [] []):cD P st o K:=by
 unfold EW at h
 split at h
 case h_2=>exact h.elim
 rename_i ti len s g ht hx
 split at h
 case h_2=>exact h.elim
 rename_i n e hk
 cases hc:Nat.blt 0 n&&EI g s n with
 |false=>rw [hc] at h;exact h.elim
 |true=>
 rw [hc] at h
 simp only [af,ar] at hc h
 have hn:0<n:=by simpa using hc.1
 obtain ⟨hb,h⟩:=If.elim h
 have hb:=aa hb
 refine cD.pure h (gY.pure fun ρ T a w hr=> ?_)
 have r1:=hr x (by simp [ho,Op.operands])
 rw [hx] at r1
 obtain ⟨ad,cp,h3,h4,h5⟩:=r1
 obtain ⟨b,off,rfl,h6,h7,h8⟩:=h5 (by omega)
 have hu: ∀w,(Go.underlying t).run P w= .ok (.array n e) w:=fun w=>by simp [Go.underlying,i2 (htt _ _ ht) hk]
 refine ⟨.pointer (some ⟨b,off,none⟩), ?_,b,off,rfl,h6,h7,(NF n hc.2 fun i hi=>h8 i (by omega)).2⟩
 simp [execOp,ho,h3,Instr.arrayAt,hu,gh.2 hb]
omit htt in
theorem YQ{z:Array Value}{sz n i:Nat}(hz:z.size=sz)(_hp:0<sz)(hi:i<n):((madeCells z (n*sz)).toList.drop (i*sz)).take sz=z.toList:=by
 have hlt:(i+1)*sz<=n*sz:=bj _ hi
 rw [bp,cj] at hlt
 apply gr
 intro k
 rw [br,bu]
 by_cases hk:k<sz
 ·rw [if_pos hk,bt,bt]
  unfold madeCells
  rw [Array.getElem?_map,Array.getElem?_range]
  rw [if_pos (by omega)]
  simp only [dq]
  rw [hz,Nat.mul_comm i sz,Nat.mul_add_mod,Nat.mod_eq_of_lt hk,getElem!_pos z k (by omega),cl (by omega)]
 ·rw [if_neg hk,dy (by rw [fe];omega)]
theorem DS{t:TypeId}{x y:Operand}(ho:o.op= .makeSlice t x y)(h:yJ env t (eval st.tmps x) (eval st.tmps y) st K):cD P st o K:=by
 unfold yJ at h
 split at h
 case h_2=>exact h.elim
 rename_i ti k a k' b ht hx hy
 split at h
 case h_2=>exact h.elim
 rename_i e hk
 split at h
 case h_2=>exact h.elim
 rename_i te hte
 cases hz0:Nat.beq te.zero.length te.size&&Nat.blt 0 te.size with
 |false=>rw [hz0] at h;exact h.elim
 |true=>
 rw [hz0] at h
 simp only [af,ar] at hz0 h
 have hzl:=ai hz0.1
 have hpos:0<te.size:=cd hz0.2
 obtain ⟨hb,hK⟩:=If.elim h
 clear h
 simp only [af,ak] at hb
 obtain ⟨h0,hab,hbytes,h63⟩:=hb
 have hT:=cK (htt _ _ ht) hk
 obtain ⟨⟨inf,hinf,hsz,hby,z,hz,hzc⟩,_,_⟩:=htt _ _ hte
 have hzs:z.cells.size=te.size:=by
  have:=bV (cZ (fun _=>none) (fun _=>False) default z.cells.toList te.zero hzc)
  rw [<- hzl,this];simp
 obtain ⟨n,rfl⟩: ∃n:Nat,a=(n:Int):=⟨a.toNat,by omega⟩
 obtain ⟨m,rfl⟩: ∃m:Nat,b=(m:Int):=⟨b.toNat,by omega⟩
 rw [am] at hK
 refine ⟨_,_,_,_,_,hK,Nat.le_succ _,by simp,jF.one,fun i o' hi=> ?_,fun ρ T ac w next Q hr _ _ hρ hn hnext=> ?_⟩
 ·simp only [aq,bn] at hi
  right;omega
 ·have r1:=hr x (by simp [ho,Op.operands])
  have r2:=hr y (by simp [ho,Op.operands])
  rw [hx] at r1
  rw [hy] at r2
  have hrun0:=run_make (P:=P) w t e inf z hT hinf hz k k' n m (by omega) hab (by rw [hby,fz];omega) (by omega)
  have hmul:n*te.size<=m*te.size:=bj _ (by omega)
  have hrun:(execOp ac.eval o).run P w= .ok (.value (.slice (some ⟨w.heap.size,0,none⟩) n m)) (w.alloc (.cells (madeCells z.cells (m*te.size)) e)):=by
   simp only [execOp,ho,r1.1,r2.1]
   simp only [am,hsz] at hrun0
   simp only [Sem.run_bind,hrun0,Result.andThen_ok]
   rfl
  refine bR hrun (hnext _ _ _ _ (gX.newB (b:=w.heap.size) (hn st.nxt (av _) (by omega)) (bG.alloc _ w _) (av _) (by rw [World.size_alloc];omega) ?_ ?_))
  ·refine ⟨_,eS w _,by rw [size_madeCells];exact hmul,fun i hi=> ?_⟩
   rw [YQ hzs hpos (show i<m by omega)]
   exact cZ _ _ _ _ _ hzc
  ·exact ⟨w.heap.size,m,by simp [eJ],by rw [ce],by omega,by omega,_,_,_,eS w _,by rw [size_madeCells];omega⟩
omit htt in
theorem H5{src dst:TypeId}(h:BJ env src dst=true)(htt: ∀t ti,env.tt t=some ti->gJ P t ti): ∃e,P.underlying src=some (.slice e)/\P.underlying dst=some .string/\P.underlying e=some (.int .u8):=by
 unfold BJ at h
 split at h
 ·rename_i ts td hs hd
  split at h
  ·rename_i e hk hk'
   split at h
   ·rename_i te hte
    split at h
    ·rename_i hke
     exact ⟨e,cK (htt _ _ hs) hk,gL (htt _ _ hd) hk',sO (htt _ _ hte) hke⟩
    ·cases h
   ·cases h
  ·cases h
 ·cases h
omit htt in
theorem wE(n:Nat)(g:Nat->List SV):(oR n g).length=n:=by simp [oR]
omit htt in
theorem FY {src dst e:TypeId} {w:World} {a:Act} {x:Operand} {ad:Option Addr} {len c:Nat} {news:List Value} {l:List Int} (ho:o.op= .convert src dst x) (h1:P.underlying src=some (.slice e)) (h2:P.underlying dst=some .string) (h3:P.underlying e=some (.int .u8))
  (hx:a.eval x= .slice ad len c) (hl:l.length=len) (hnews:news=l.map fun n=>Value.int .u8 n) (hcells:len=0\/ ∃b off,ad=some ⟨b,off,none⟩/\ ∀j u,news[j]? =some u->w.cell? ⟨b,off+j,none⟩=some u):
  (execOp a.eval o).run P w= .ok (.value (.string (bytesOf l))) w:=by
 have hu1: ∀w,(Go.underlying src).run P w= .ok (.slice e) w:=fun w=>by simp [Go.underlying,h1]
 have hu2: ∀w,(Go.underlying dst).run P w= .ok .string w:=fun w=>by simp [Go.underlying,h2]
 have hu3: ∀w,(Go.underlying e).run P w= .ok (.int .u8) w:=fun w=>by simp [Go.underlying,h3]
 cases ad with
 |none=>
  have h0:len=0:=by
   rcases hcells with h|⟨_,_,h,_⟩
   ·exact h
   ·cases h
  subst h0
  obtain rfl:l=[]:=fg hl
  simp only [execOp,ho,hx,Go.convert,Sem.run_bind,hu1,hu2,hu3,Result.andThen_ok,Conv.bytesToString]
  simp [bytesOf,ByteArray.empty,ByteArray.emptyWithCapacity];try rfl
 |some ad=>
  have hload:(loadCells ad len).run P w= .ok (l.map fun n=>Value.int .u8 n).toArray w:=by
   rcases hcells with rfl|⟨b,off,h,h'⟩
   ·obtain rfl:l=[]:=fg hl
    simp [loadCells,loadCellsFrom]
   ·cases h
    have:=run_loadCells_list (P:=P) w ⟨b,off,none⟩ news (fun j v hj=>by rw [dL];exact h' j v hj)
    rw [hnews,gu,hl] at this
    exact this
  simp only [execOp,ho,hx,Go.convert,Sem.run_bind,hu1,hu2,hu3,Result.andThen_ok,Conv.bytesToString,hload]
  simp [bytesOf,ByteArray.empty,ByteArray.emptyWithCapacity,D7];try rfl
theorem BY {src dst:TypeId} {x:Operand} {len sz:Nat} {g:Nat->List SV} (ho:o.op= .convert src dst x)
  (hx:eval st.tmps x= .ro len sz g\/(eval st.tmps x= .nils/\len=0)) (h:CZ env src dst len sz g st K):cD P st o K:=by
 unfold CZ at h
 cases hc:BJ env src dst&&Nat.beq sz 1 with
 |false=>rw [hc] at h;exact h.elim
 |true=>
 rw [hc] at h
 simp only [af,ar] at hc h
 obtain ⟨e,k1,k2,k3⟩:=H5 hc.1 htt
 have hs:=ai hc.2
 obtain ⟨hb,h⟩:=h
 obtain ⟨hlt,h⟩:=If.elim h
 refine cD.pure h (gY.pure fun ρ T a w hr=> ?_)
 have r1:=hr x (by simp [ho,Op.operands])
 have hsz:(bytesOf (oR len g)).size<9223372036854775808:=by
  have:(bytesOf (oR len g)).size=(oR len g).length:=by simp [bytesOf,ByteArray.size]
  rw [this,wE];exact aa hlt
 rcases hx with hx|⟨hx,rfl⟩
 ·rw [hx] at r1
  obtain ⟨ad,c,h3,h4,h5⟩:=r1
  refine ⟨_,FY (w:=w) ho k1 k2 k3 h3 (wE len g) rfl ?_,rfl,hsz⟩
  rcases Nat.eq_zero_or_pos len with h0|h0
  ·exact .inl h0
  ·right
   obtain ⟨b,off,rfl,h6,h7,h8⟩:=h5 h0
   obtain ⟨news,h9,h10⟩:=wL len hb (fun i hi=>by rw [<- hs];exact h8 i hi)
   exact ⟨b,off,rfl,by rw [<- h9];exact h10⟩
 ·rw [hx] at r1
  exact ⟨_,FY (w:=w) ho k1 k2 k3 (show a.eval x= .slice none 0 0 from r1) (wE 0 g) rfl (.inl rfl),rfl,hsz⟩
theorem OK {src dst:TypeId} {x:Operand} {id len sz:Nat} (ho:o.op= .convert src dst x)
  (hx:eval st.tmps x= .own id 0 sz len) (h:KA env src dst id sz len st K):cD P st o K:=by
 unfold KA at h
 cases hc:BJ env src dst&&Nat.beq sz 1 with
 |false=>rw [hc] at h;exact h.elim
 |true=>
 rw [hc] at h
 simp only [af,ar] at hc h
 obtain ⟨e,k1,k2,k3⟩:=H5 hc.1 htt
 have hs:=ai hc.2
 split at h
 case h_2=>exact h.elim
 rename_i e1 sz' len' g hl
 cases hc2:Nat.beq sz' 1 with
 |false=>rw [hc2] at h;exact h.elim
 |true=>
 rw [hc2] at h
 have hs2:=ai hc2
 obtain ⟨hb,h⟩:=(show _/\If _ _ from h)
 obtain ⟨hlt,h⟩:=If.elim h
 simp only [af,ak] at hlt
 refine ⟨_,[],st.nxt,[id],[],h,av _, ?_,jF.nil,by simp,fun ρ T a w next Q hr hb' _ _ _ hnext=> ?_⟩
 ·intro i hi
  simp only [aq,cq,fy] at hi
  subst hi;exact ⟨_,hl⟩
 ·have r1:=hr x (by simp [ho,Op.operands])
  rw [hx] at r1
  obtain ⟨b,c,j1,j2,j3,j4,vs0,e0,f0,j5,j6⟩:=r1
  obtain ⟨sb,b',h4,h5,_,h6⟩:=hb' id (.inl (by simp))
  rw [hl] at h4;cases h4
  rw [j1] at h5;cases h5
  obtain ⟨vs,l1,l2,l3⟩:=h6
  have hat: ∀i,i<len->fJ T w (g i) b (0+i*1):=fun i hi=>eV (l3 i (by omega)) fun j c hj=>by
   rw [fF l1]
   rw [br] at hj
   split at hj
   ·rw [bu,bt,hs2] at hj
    rw [bi];exact hj
   ·cases hj
  obtain ⟨news,h9,h10⟩:=wL len hb hat
  have hsz:(bytesOf (oR len g)).size<9223372036854775808:=by
   have:(bytesOf (oR len g)).size=(oR len g).length:=by simp [bytesOf,ByteArray.size]
   rw [this,wE];exact hlt.1
  rw [ce] at j2
  exact bR (FY (w:=w) ho k1 k2 k3 j2 (wE len g) rfl (.inr ⟨b,0,rfl,by rw [<- h9];exact h10⟩)) (hnext _ w ρ T (gX.pure ⟨rfl,hsz⟩))
end Go.Se
namespace Go.Se
variable {P:Program}
theorem bG.turn{D:Nat}{w w':World}(h:Put D w w'):bG (fun b=>b=D) w w':=
 ⟨Nat.le_of_eq h.size.symm,fun b _ hb=>h.same b hb,fun _ vs _ f hb=>⟨vs,f,h.cells hb,rfl⟩,h.os,h.output,h.tape⟩
theorem pZ{D:Nat}{w:World}{o o':Obj}(h:w.heap[D]? =some o)(ho: ∀vs e f,o≠ .cells vs e f):Put D w (w.putObj D o') where
 size:=World.putObj_size
 same:=fun b hb=>World.putObj_heap_other hb
 old:=fun vs e f e2=>by rw [h] at e2;cases e2;exact ho vs e f rfl
 os:=rfl
 output:=rfl
 tape:=rfl
theorem O8{e:TypeId}(hc:P.cellsOf e≠0):liesAt P P.depth e (P.cellsOf e/P.cellsOf e) 0 e 1=true:=by
 have hd:P.depth=(2*(P.types.size+Made.depth)+1)+1:=rfl
 rw [Nat.div_self (by omega),hd]
 simp only [liesAt,Bool.or_eq_true]
 left
 rw [hd]
 simp [Go.rowAt,hc,sameLayout]
section
variable {st:St} {o:Oper} {K:KV} {env:Env} (htt: ∀t ti,env.tt t=some ti->gJ P t ti)
theorem BU{t:TypeId}{ti:TI}(ht:gJ P t ti)(hk:ti.kind= .other):P.underlying t=some .unsafePointer:=by
 obtain ⟨_,⟨d,hd,h⟩,_⟩:=ht
 rw [hk] at h
 cases d<;>simp only [lM,an,reduceCtorEq] at h
 case struct gs=>
  cases hb:gs.toList.all (fun f=>f.name != "_") with
  |true=>rw [hb] at h;simp at h
  |false=>rw [hb] at h;simp at h
 exact hd
include htt
theorem QV{src dst:TypeId}{x:Operand}{id off:Nat}(ho:o.op= .convert src dst x)(hx:eval st.tmps x= .ptr id off)(h:KL env src dst id off st K):cD P st o K:=by
 unfold KL at h
 split at h
 case h_2=>exact h.elim
 rename_i ts td e cs hs hd hl
 have main:K (.ptr id off) [] st.nxt [id] []->(∀(w:World) (b:Nat) (vs:Array Value),w.heap[b]? =some (.cells vs e (0,0))->vs.size=cs.length->(Go.convert src dst (.pointer (some ⟨b,off,none⟩))).run P w= .ok (.pointer (some ⟨b,off,none⟩)) w)->cD P st o K:=by
  intro hK hrun
  refine ⟨_,[],st.nxt,[id],[],hK,av _, ?_,jF.nil,by simp,fun ρ T a w next Q hr hb _ _ _ hnext=> ?_⟩
  ·intro i hi
   simp only [aq,cq,fy] at hi
   subst hi;exact ⟨_,hl⟩
  ·have h1:=hr x (by simp [ho,Op.operands])
   rw [hx] at h1
   obtain ⟨b,j1,j2⟩:=h1
   obtain ⟨sb,b',k1,k2,_,k4⟩:=hb id (.inl (by simp))
   rw [hl] at k1;cases k1
   rw [j1] at k2;cases k2
   obtain ⟨vs,l1,l2⟩:=k4
   have hlen:=bV l2
   refine bR (x:= .pointer (some ⟨b,off,none⟩)) (w':=w) ?_ (hnext _ w ρ T (gX.pure ⟨b,j1,rfl⟩))
   have:=hrun w b vs l1 (by rw [hlen];simp)
   simp only [execOp,ho,j2,Sem.run_bind,this]
   rfl
 split at h
 ·rename_i e' hk hk'
  split at h
  case h_2=>exact h.elim
  rename_i te hte
  cases hc:Nat.blt 0 te.size&&Nat.blt off cs.length with
  |false=>rw [hc] at h;exact h.elim
  |true=>
  rw [hc] at h
  simp only [af] at hc
  have h1:0<te.size:=cd hc.1
  have h2:off<cs.length:=cd hc.2
  obtain ⟨⟨inf,hinf,hsz,_⟩,_,_⟩:=htt _ _ hte
  refine main h fun w b vs hb hv=> ?_
  exact Lib.run_to_unsafe w ⟨b,off,none⟩ (oJ (htt _ _ hs) hk) (BU (htt _ _ hd) hk') hinf (by omega) (show w.shape? b=some (e,vs.size) by unfold World.shape?;rw [hb]) (show off<vs.size by omega)
 ·rename_i e' hk hk'
  split at h
  case h_2=>exact h.elim
  rename_i te hte
  cases hc:Nat.beq e e'&&(Nat.beq off 0&&(Nat.beq cs.length te.size&&Nat.blt 0 te.size)) with
  |false=>rw [hc] at h;exact h.elim
  |true=>
  rw [hc] at h
  simp only [af] at hc
  obtain rfl:=ai hc.1
  obtain rfl:=ai hc.2.1
  have h3:=ai hc.2.2.1
  have h1:0<te.size:=cd hc.2.2.2
  obtain ⟨⟨inf,hinf,hsz,_⟩,_,_⟩:=htt _ _ hte
  have hcells:P.cellsOf e=te.size:=by unfold Program.cellsOf;rw [hinf];exact hsz
  refine main h fun w b vs hb hv=> ?_
  exact Lib.run_from_unsafe w ⟨b,0,none⟩ (BU (htt _ _ hs) hk) (oJ (htt _ _ hd) hk') hinf (show w.shape? b=some (e,vs.size) by unfold World.shape?;rw [hb])
   (show liesAt P P.depth e (vs.size/P.cellsOf e) 0 e 1=true by
    have:=O8 (P:=P) (e:=e) (by omega)
    rw [show vs.size=P.cellsOf e by omega];exact this)
 ·exact h.elim
theorem RK{t:TypeId}{x:Operand}(ho:o.op= .range t x)(h:UM env t (eval st.tmps x) st K):cD P st o K:=by
 unfold UM at h
 split at h
 case h_2=>exact h.elim
 rename_i s hx
 cases hki:dI env.tt t w5 with
 |false=>rw [hki] at h;exact h.elim
 |true=>
 rw [hki] at h
 obtain ⟨ti,ht,hk⟩:=dS hki
 have hkb:ti.kind= .string:=by cases hkk:ti.kind<;>rw [hkk] at hk<;>first|rfl|cases hk
 refine ⟨_,_,_,_,_,h,Nat.le_succ _,by simp,jF.one,fun i o' hi=> ?_,fun ρ T a w next Q hr _ _ _ hn hnext=> ?_⟩
 ·simp only [aq,bn] at hi
  right;omega
 ·have h1:=hr x (by simp [ho,Op.operands])
  rw [hx] at h1
  have hrun:(execOp a.eval o).run P w= .ok (.value (.pointer (some ⟨w.heap.size,0,none⟩))) (w.alloc (.stringIter s 0)):=by
   simp only [execOp,ho,h1.1,Sem.run_bind,run_range_string w t s (gL (htt _ _ ht) hkb)]
   rfl
  refine bR hrun (hnext _ _ _ _ (gX.newB (b:=w.heap.size) (hn st.nxt (av _) (by omega)) (bG.alloc _ w _) (av _) (by rw [World.size_alloc];omega) ?_ ?_))
  ·exact ⟨0,eS w _,rfl,h1.2⟩
  ·exact ⟨w.heap.size,by simp [eJ],rfl⟩
omit htt in
theorem ZK{x:Operand}(ho:o.op= .next x true)(h:aDv (eval st.tmps x) st K):cD P st o K:=by
 unfold aDv at h
 split at h
 case h_2=>exact h.elim
 rename_i id hx
 split at h
 case h_2=>exact h.elim
 rename_i s pos hl
 have rdl: ∀i,i∈[id]\/i∈[id]-> ∃sb,aO st.store i=some sb:=by
  intro i hi
  simp only [aq,or_self] at hi
  subst hi;exact ⟨_,hl⟩
 rcases Br.elim h with ⟨hp,h⟩|⟨hp,h⟩
 ·have hp:=aa hp
  refine ⟨_,_,_,_,_,h,av _,rdl,jF.one,by simp,fun ρ T a w next Q hr hb _ _ _ hnext=> ?_⟩
  have h1:=hr x (by simp [ho,Op.operands])
  rw [hx] at h1
  obtain ⟨b,j1,j2⟩:=h1
  obtain ⟨sb,b',k1,k2,hTb,k4⟩:=hb id (.inl (by simp))
  rw [hl] at k1;cases k1
  rw [j1] at k2;cases k2
  obtain ⟨q,l1,rfl,l3⟩:=k4
  have hput:=pZ (o':= .stringIter s (q+(Utf8.decode s q).2)) l1 (fun _ _ _ e=>by cases e)
  have hrun:(execOp a.eval o).run P w= .ok (.value (.tuple #[.bool true,.int .i64 q,.int .i32 (Utf8.decode s q).1])) (w.putObj b (.stringIter s (q+(Utf8.decode s q).2))):=by
   simp only [execOp,ho,j2,Instr.next,getObj,setObj,Sem.run_bind,Sem.run,l1,Result.andThen,hp,if_true]
   rfl
  refine bR hrun (hnext _ _ ρ T (gX.turnIn j1 hTb (bG.turn hput) (fun sb hsb=> ?_) ?_))
  ·cases hsb
   refine ⟨_, ?_,rfl,l3⟩
   show (w.heap.setIfInBounds b _)[b]? =_
   rw [Array.getElem?_setIfInBounds_self_of_lt (bk.1 l1).1]
  ·refine ⟨_,rfl,_,_,rfl,rfl,_,_,rfl,⟨rfl, ?_⟩,_,_,rfl,⟨rfl, ?_⟩,rfl⟩
   ·show (-9223372036854775808:Int)<=_/\_<=(9223372036854775807:Int);omega
   ·have:=decode_le s q
    show (-2147483648:Int)<=_/\_<=(2147483647:Int);omega
 ·have hp:=ae hp
  refine ⟨_,[],st.nxt,[id],[],h,av _,fun i hi=>rdl i (by rcases hi with hi|hi;exact .inl hi;cases hi),jF.nil,by simp,fun ρ T a w next Q hr hb _ _ _ hnext=> ?_⟩
  have h1:=hr x (by simp [ho,Op.operands])
  rw [hx] at h1
  obtain ⟨b,j1,j2⟩:=h1
  obtain ⟨sb,b',k1,k2,hTb,k4⟩:=hb id (.inl (by simp))
  rw [hl] at k1;cases k1
  rw [j1] at k2;cases k2
  obtain ⟨q,l1,rfl,l3⟩:=k4
  refine bR (x:= .tuple #[.bool false]) (w':=w) ?_ (hnext _ w ρ T (gX.pure ⟨_,rfl,_,_,rfl,rfl,rfl⟩))
  simp only [execOp,ho,j2,Instr.next,getObj,Sem.run_bind,Sem.run,l1,Result.andThen,hp,ea]
  rfl
end
end Go.Se
namespace Go.Se
variable {P:Program}
structure aB1 (P:Program) (env:Env):Prop where
 tt: ∀t ti,env.tt t=some ti->gJ P t ti
 callee: ∀k xs σ,Sat P k xs σ (env.callee k xs σ)
structure rA (P:Program) (env:Env):Prop extends aB1 P env where
 round: ∀xs σ,aHK P xs σ (env.round xs σ)
 ft: ∀k fn,env.ft k=some fn->P.funcs[k]? =some fn/\(fn.name== "runtime.NumGoroutine")=false
theorem aAg{env:Env}(he:rA P env){st:St}{o:Oper}{K:KV}(h:LG env st o.op K):cD P st o K:=by
 cases ho:o.op<;>simp only [ho,LG] at h
 case move x=>exact YN ho h
 case assign x=>exact NM ho h
 case pick c x y=>
  split at h
  ·rename_i b hb;exact Z3 ho hb h
  ·exact h.elim
 case alloc t=>
  split at h
  ·rename_i ti ht;exact RU he.tt ho ht h
  ·exact h.elim
 case box t x=>
  split at h
  ·exact h.elim
  ·rename_i hj;exact aC7 ho hj h
 case build t ps=>exact VH he.tt ho h
 case buildSlice t n ps=>exact CQ he.tt ho h
 case load t x=>exact aBk he.tt ho h
 case store t x y=>exact TV he.tt ho h
 case nilCheck x=>
  split at h
  ·rename_i i off hx;exact rG ho (by rw [hx]) (by rw [hx];exact h)
  ·rename_i i j k l hx;exact rG ho (by rw [hx]) (by rw [hx];exact h)
  ·rename_i cs hx;exact rG ho (by rw [hx]) (by rw [hx];exact h)
  ·exact h.elim
 case binOp op t x y ty=>exact U2 he.tt ho h
 case unOp op t x=>exact Z7 ho h
 case convert src dst x=>
  split at h
  ·rename_i id off len c hx;exact S4 he.tt ho hx h
  ·rename_i len sz g hx;exact BY he.tt ho (.inl hx) h
  ·rename_i hx;exact BY he.tt ho (.inr ⟨hx,rfl⟩) h
  ·rename_i id sz len hx;exact OK he.tt ho hx h
  ·rename_i id off hx;exact QV he.tt ho hx h
  ·exact KG he.tt ho h
 case slice t x lo hi mx=>
  split at h
  ·exact RO he.tt ho h
  ·exact PG he.tt ho h
 case sliceToArrayPointer t x=>exact LM he.tt ho h
 case makeSlice t x y=>exact DS he.tt ho h
 case makeFunc f x y=>exact HJ ho h
 case fieldAddr s x f=>exact EC he.tt rfl ho h
 case field s x f=>exact S0 he.tt rfl ho h
 case indexAddr t x i=>exact F1 he.tt rfl ho h
 case index t x i=>exact T7 he.tt rfl ho h
 case range t x=>exact RK he.tt ho h
 case next x b=>
  cases b with
  |false=>exact h.elim
  |true=>exact ZK ho h
 case extract x i=>
  split at h
  ·rename_i vs hx
   split at h
   ·rename_i v hv;exact L8 ho hx hv h
   ·exact h.elim
  ·exact h.elim
 case makeInterface t x=>
  split at h
  ·rename_i ti ht
   cases hi:qJ ti.kind with
   |true=>rw [hi] at h;exact h.elim
   |false=>rw [hi] at h;exact yF ho (he.tt _ _ ht) hi h
  ·exact h.elim
 case call c=>
  split at h
  ·rename_i f hc
   split at h
   ·rename_i k first cap hf;exact aBl (he.callee k) ho hc hf h
   ·rename_i id hf;exact S9 he.round ho hc hf h
   ·exact h.elim
  ·rename_i b hc;exact K8 he.tt ho hc h
  ·exact h.elim
 all_goals exact h.elim
end Go.Se
namespace Go.Se
variable {P:Program}
structure mW (P:Program) where
 w:World
 ρ:aL
 T:Nat->Prop
 n:Nat
def zW(n:Nat)(T:Nat->Prop)(w:World)(ds:List Deferred):Prop:=
 ∃Ds:List Nat,ds=Ds.map (fun D=>({target:= .collected D,args:= #[]}:Deferred))/\Ds.Nodup/\ ∀D∈Ds,n<=D/\ ¬T D/\w.heap[D]? =some (.deferred (some []))
theorem zW.nil{n:Nat}{T:Nat->Prop}{w:World}:zW n T w []:=⟨[],rfl,List.nodup_nil,fun _ h=>by cases h⟩
theorem zW.grow{n:Nat}{T T':Nat->Prop}{w w':World}{ds:List Deferred}(h:zW n T w ds)(hT: ∀b,b<w.heap.size->T' b->T b)(hw:bG T w w'):zW n T' w' ds:=by
 obtain ⟨Ds,h1,h2,h3⟩:=h
 refine ⟨Ds,h1,h2,fun D hD=> ?_⟩
 obtain ⟨k1,k2,k3⟩:=h3 D hD
 have hlt:D<w.heap.size:=(bk.1 k3).1
 exact ⟨k1,fun ht=>k2 (hT D hlt ht),by rw [hw.same D hlt k2];exact k3⟩
structure iL (B:mW P) (tm:Nat->SV) (sf:Nat->Option SB) (A:Nat->Prop) (D:List Nat) (nt:Nat) (a:Act) (w:World) (ρ:aL) (T:Nat->Prop):Prop where
 defers:zW B.w.heap.size T w a.defers
 size:a.tmps.size=nt
 tmps: ∀t,rel ρ T w (tm t) (a.tmps.getD t undef)
 store: ∀id sb,sf id=some sb->A id/\ ∃b,ρ id=some b/\T b/\fV ρ T w sb b
 names: ∀id b,ρ id=some b->A id/\b<w.heap.size
 inj: ∀i j b,(sf i).isSome->(sf j).isSome->ρ i=some b->ρ j=some b->i=j
 base: ∀id,id<B.n->A id
 full: ∀p,p<B.n-> ∃b,B.ρ p=some b
 grow:bG (fun b=> ∃p,p∈D/\p<B.n/\B.ρ p=some b) B.w w
 old: ∀p b,B.ρ p=some b->p<B.n/\ρ p=some b
 tback: ∀b,b<B.w.heap.size->T b->B.T b
 tkeep: ∀b,b<B.w.heap.size->B.T b->T b\/ ∃q,q∈D/\q<B.n/\sf q=none/\B.ρ q=some b
 fresh: ∀id b,(sf id).isSome->B.n<=id->ρ id=some b->B.w.heap.size<=b\/ ∃q,q∈D/\q<B.n/\sf q=none/\B.ρ q=some b
 inv:Inv P T w
def upd(f:Nat->SV)(d:Option Nat)(v:SV):Nat->SV:=
 match d with
 |some d=>fun t=>if t=d then v else f t
 |none=>f
def qN(f:Nat->Option SB)(u:eD):Nat->Option SB:=
 match u with
 | []=>f
 |(i,o)::u=>fun id=>if id=i then o else qN f u id
theorem nG(f:Nat->Option SB): ∀(u:eD) (id:Nat),(∃o,(id,o)∈u/\qN f u id=o)\/((∀o,(id,o)∉u)/\qN f u id=f id)
 | [],id=>Or.inr (And.intro (fun _ h=>nomatch h) rfl)
 |(i,o)::u,id=>by
  by_cases h:id=i
  ·subst h
   exact .inl ⟨o,by simp,by simp [qN]⟩
  ·rcases nG f u id with ⟨o',h1,h2⟩|⟨h1,h2⟩
   ·exact .inl ⟨o',by simp [h1],by simp [qN,h,h2]⟩
   ·exact .inr ⟨fun o' ho=>by
     simp only [cb,bn] at ho
     rcases ho with ⟨h3,_⟩|ho
     ·exact h h3
     ·exact h1 o' ho,by simp [qN,h,h2]⟩
theorem A1(u s:eD)(id:Nat):aO (u++s) id=qN (aO s) u id:=by
 induction u with
 |nil=>rfl
 |cons p u ih=>
  obtain ⟨i,o⟩:=p
  simp only [gk,aO,qN]
  by_cases h:id=i
  ·subst h;simp
  ·have:Nat.beq i id=false:=by
    rw [cf];intro e;exact h (ai e).symm
   rw [this,if_neg h];exact ih
theorem aCw(a:Act)(d:Nat)(x:Value)(h:d<a.tmps.size)(t:Nat):(a.put (some d) x).tmps.getD t undef=if t=d then x else a.tmps.getD t undef:=by
 simp only [Act.put,bv]
 by_cases e:t=d
 ·subst e;simp [h]
 ·rw [ib (Ne.symm e),if_neg e]
theorem iL.done {B:mW P} {tm:Nat->SV} {sf:Nat->Option SB} {A:Nat->Prop} {D:List Nat} {nt:Nat} {a:Act} {w:World} {ρ:aL} {T:Nat->Prop}
  (h:iL B tm sf A D nt a w ρ T) {nxt n:Nat} {v:SV} {u:eD} {wr:List Nat} {ρ':aL} {T':Nat->Prop} {w':World} {x:Value} {dst:Option Nat}
  (hd:gX ρ T w nxt n v u wr ρ' T' w' x) (hdst: ∀d,dst=some d->d<nt) (hB:B.n<=nxt)
  (hnew: ∀id,nxt<=id->id<n-> ¬A id) (hwr: ∀id,id∈wr->(sf id).isSome) (hf: ∀id x y,(id,x)∈u->(id,y)∈u->x=y)
  {D':List Nat} (hD: ∀p,p∈D->p∈D') (hD': ∀p,p∈wr->p∈D') {A':Nat->Prop} (hA: ∀id,A' id↔A id\/(nxt<=id/\id<n)):
  iL B (upd tm dst v) (qN sf u) A' D' nt (a.put dst x) w' ρ' T':=by
 have hgT:bG T w w':=hd.grow.mono fun b hb ⟨id,h1,h2⟩=>by
  obtain ⟨sb,hsb⟩:=db.1 (hwr id h1)
  obtain ⟨_,b',h3,h4,_⟩:=h.store id sb hsb
  rw [h2] at h3;cases h3;exact h4
 have hmono: ∀(s:SV) (y:Value),rel ρ T w s y->rel ρ' T' w' s y:=iW hd.names hd.tback hgT
 have hkeep: ∀id sb,sf id=some sb->(∀o,(id,o)∉u)->id∉wr-> ∃b,ρ' id=some b/\T' b/\fV ρ' T' w' sb b:=by
  intro id sb hsb hnu hnw
  obtain ⟨_,b,h3,h4,h5⟩:=h.store id sb hsb
  have hlt:=aGi h5
  refine ⟨b,hd.names _ _ h3, ?_,rT hd.names hd.tback hgT (hd.grow.same b hlt ?_) h5⟩
  ·rcases hd.tkeep b hlt h4 with h6|⟨j,h6,h7,h8⟩
   ·exact h6
   ·have:=h.inj id j b (by rw [hsb];rfl) (hwr j h6) h3 h8
    subst this
    exact absurd h7 (hnu _)
  ·rintro ⟨j,h6,h7⟩
   have:=h.inj id j b (by rw [hsb];rfl) (hwr j h6) h3 h7
   subst this
   exact hnw h6
 have hdead: ∀q,sf q=none->q<B.n->qN sf u q=none:=by
  intro q hq hqn
  rcases nG sf u q with ⟨o,h1,h2⟩|⟨_,h2⟩
  ·rcases hd.keys q o h1 with h3|h3
   ·have:=hwr q h3;rw [hq] at this;cases this
   ·omega
  ·rw [h2];exact hq
 have hdeadU: ∀q,(q,none)∈u->qN sf u q=none:=by
  intro q hq
  rcases nG sf u q with ⟨o,h1,h2⟩|⟨h1,_⟩
  ·rw [h2];exact hf q o none h1 hq
  ·exact absurd hq (h1 _)
 have hconsumed: ∀j b,j∈wr->(j,none)∈u->ρ j=some b->
   (B.w.heap.size<=b\/ ∃q,q∈D'/\q<B.n/\qN sf u q=none/\B.ρ q=some b):=by
  intro j b hj hju hjb
  by_cases hjn:j<B.n
  ·by_cases hold:b<B.w.heap.size
   ·right
    refine ⟨j,hD' j hj,hjn,hdeadU j hju, ?_⟩
    obtain ⟨b',hb'⟩:=h.full j hjn
    have:=(h.old j b' hb').2
    rw [hjb] at this;cases this
    exact hb'
   ·left;omega
  ·rcases h.fresh j b (hwr j hj) (by omega) hjb with h1|⟨q,h1,h2,h3,h4⟩
   ·exact .inl h1
   ·exact .inr ⟨q,hD q h1,h2,hdead q h3 h2,h4⟩
 have halive: ∀(i:Nat) (b:Nat),(qN sf u i).isSome->A i->(sf i).isSome:=by
  intro i b hi hAi
  rcases nG sf u i with ⟨o,h1,h2⟩|⟨_,h2⟩
  ·rcases hd.keys i o h1 with h3|h3
   ·exact hwr i h3
   ·exact absurd hAi (hnew i h3.1 h3.2)
  ·rw [h2] at hi;exact hi
 have holdname: ∀i b,ρ' i=some b-> ¬(nxt<=i/\i<n)->ρ i=some b:=by
  intro i b hi hn
  exact (hd.only i b hi).resolve_right hn
 have mixed: ∀i j b,(nxt<=i/\i<n)-> ¬(nxt<=j/\j<n)->(qN sf u j).isSome->ρ' i=some b->ρ' j=some b->False:=by
  intro i j b hi hj hjs hib hjb
  have hjo:=holdname j b hjb hj
  have hAj:=(h.names j b hjo).1
  rcases hd.fresh i b hi.1 hi.2 hib with h1|⟨q,h1,h2,h3⟩
  ·have:=(h.names j b hjo).2;omega
  ·have:=h.inj q j b (hwr q h1) (halive j b hjs hAj) h3 hjo
   subst this
   rw [hdeadU q h2] at hjs;cases hjs
 refine {defers:= ?_,size:= ?_,tmps:= ?_,store:= ?_,names:= ?_,inj:= ?_,base:=fun id hid=>(hA id).2 (.inl (h.base id hid)),full:=h.full,grow:= ?_,old:= ?_,tback:= ?_,tkeep:= ?_,fresh:= ?_,inv:=h.inv.grow hd.tback hgT}
 ·have:=h.defers.grow hd.tback hgT
  cases dst<;>exact this
 ·cases dst with
  |none=>exact h.size
  |some d=>simp [Act.put,h.size]
 ·intro t
  cases dst with
  |none=>exact hmono _ _ (h.tmps t)
  |some d=>
   rw [aCw a d x (by rw [h.size];exact hdst d rfl)]
   unfold upd
   by_cases e:t=d
   ·simp only [e,if_true];exact hd.val
   ·simp only [e,ea];exact hmono _ _ (h.tmps t)
 ·intro id sb hid
  rcases nG sf u id with ⟨o,h1,h2⟩|⟨h1,h2⟩
  ·rw [h2] at hid
   subst hid
   refine ⟨(hA id).2 ?_,hd.turned id sb h1⟩
   rcases hd.keys id _ h1 with h3|h3
   ·obtain ⟨sb',hsb'⟩:=db.1 (hwr id h3)
    exact .inl (h.store id sb' hsb').1
   ·exact .inr h3
  ·rw [h2] at hid
   refine ⟨(hA id).2 (.inl (h.store id sb hid).1),hkeep id sb hid h1 fun hw=> ?_⟩
   obtain ⟨o,ho⟩:=hd.cover id hw
   exact h1 o ho
 ·intro id b hid
  rcases hd.only id b hid with h1|h1
  ·obtain ⟨h2,h3⟩:=h.names id b h1
   exact ⟨(hA id).2 (.inl h2),dm h3 hd.grow.size⟩
  ·refine ⟨(hA id).2 (.inr h1), ?_⟩
   exact hd.below id b h1.1 h1.2 hid
 ·intro i j b hi hj hib hjb
  by_cases hin:nxt<=i/\i<n<;>by_cases hjn:nxt<=j/\j<n
  ·exact hd.inj i j b hin.1 hin.2 hjn.1 hjn.2 hib hjb
  ·exact (mixed i j b hin hjn hj hib hjb).elim
  ·exact (mixed j i b hjn hin hi hjb hib).elim
  ·have h1:=holdname i b hib hin
   have h2:=holdname j b hjb hjn
   exact h.inj i j b (halive i b hi (h.names i b h1).1) (halive j b hj (h.names j b h2).1) h1 h2
 ·refine (h.grow.mono fun b _ ⟨p,h1,h2,h3⟩=>⟨p,hD p h1,h2,h3⟩).trans hd.grow fun b hb ⟨id,h1,h2⟩=> ?_
  by_cases hin:id<B.n
  ·obtain ⟨b',hb'⟩:=h.full id hin
   have:=(h.old id b' hb').2
   rw [h2] at this;cases this
   exact ⟨id,hD' id h1,hin,hb'⟩
  ·rcases h.fresh id b (hwr id h1) (by omega) h2 with h3|⟨q,h3,h4,_,h5⟩
   ·omega
   ·exact ⟨q,hD q h3,h4,h5⟩
 ·intro p b hp
  exact ⟨(h.old p b hp).1,hd.names _ _ (h.old p b hp).2⟩
 ·intro b hb hT
  exact h.tback b hb (hd.tback b (dm hb h.grow.size) hT)
 ·intro b hlt hb
  rcases h.tkeep b hlt hb with h1|⟨q,h1,h2,h3,h4⟩
  ·rcases hd.tkeep b (dm hlt h.grow.size) h1 with h2|⟨j,h2,h3,h4⟩
   ·exact .inl h2
   ·rcases hconsumed j b h2 h3 h4 with h5|h5
    ·omega
    ·exact .inr h5
  ·exact .inr ⟨q,hD q h1,h2,hdead q h3 h2,h4⟩
 ·intro id b hid hn hib
  by_cases hin:nxt<=id/\id<n
  ·rcases hd.fresh id b hin.1 hin.2 hib with h1|⟨q,h1,h2,h3⟩
   ·left;exact fu h.grow.size h1
   ·exact hconsumed q b h1 h2 h3
  ·have h1:=holdname id b hib hin
   rcases h.fresh id b (halive id b hid (h.names id b h1).1) hn h1 with h2|⟨q,h2,h3,h4,h5⟩
   ·exact .inl h2
   ·exact .inr ⟨q,hD q h2,h3,hdead q h4 h3,h5⟩
theorem iL.put {B:mW P} {tm:Nat->SV} {sf:Nat->Option SB} {A:Nat->Prop} {Ds:List Nat} {nt:Nat} {a:Act} {w w':World} {ρ:aL} {T:Nat->Prop} {D:Nat}
  (h:iL B tm sf A Ds nt a w ρ T) (hp:Put D w w') (hD:B.w.heap.size<=D) (hnT: ¬T D) {ds:List Deferred} (hds:zW B.w.heap.size T w' ds):iL B tm sf A Ds nt {a with defers:=ds} w' ρ T where
 defers:=hds
 size:=h.size
 tmps:=fun t=>pK hp _ _ (h.tmps t)
 store:=fun id sb hid=>by
  obtain ⟨h1,b,h2,h3,h4⟩:=h.store id sb hid
  exact ⟨h1,b,h2,h3,EY hp (by rintro rfl;exact hnT h3) h4⟩
 names:=fun id b hid=>by rw [hp.size];exact h.names id b hid
 inj:=h.inj
 base:=h.base
 full:=h.full
 grow:=h.grow.trans (bG.turn hp) fun b hb e=>by omega
 old:=h.old
 tback:=h.tback
 tkeep:=h.tkeep
 fresh:=h.fresh
 inv:=fun g v hg=>⟨(h.inv g v hg).1,hp.cell (h.inv g v hg).2⟩
theorem zF{fn:Func}{R:Ending->World->Prop}{B:mW P}{tm:Nat->SV}{sf:Nat->Option SB}{A:Nat->Prop}{Ds:List Nat}{nt:Nat}{ρ:aL}{T:Nat->Prop}:
  ∀(l:List Nat) (a:Act) (w:World),a.defers=l.map (fun D=>({target:= .collected D,args:= #[]}:Deferred))->l.Nodup->(∀D∈l,B.w.heap.size<=D/\ ¬T D/\w.heap[D]? =some (.deferred (some [])))->
   iL B tm sf A Ds nt a w ρ T->
   (∀(a':Act) (w':World),a'.tmps=a.tmps->iL B tm sf A Ds nt a' w' ρ T-> ∃v,(results fn a.tmps).run P w'= .ok v w'/\R (.returned v) w')->LeavesInM Fence.wide 0 P fn a.tmps R a.defers .returning w
 | [],a,w,hd,_,_,hh,hend=>by rw [hd];exact hend a w rfl hh
 |D::l,a,w,hd,hnd,hall,hh,hend=>by
  obtain ⟨k1,k2,k3⟩:=hall D (bq ..)
  rw [List.nodup_cons] at hnd
  have hp:=pZ (o':= .deferred none) k3 (fun _ _ _ e=>by cases e)
  have hrest: ∀D'∈l,B.w.heap.size<=D'/\ ¬T D'/\(w.putObj D (.deferred none)).heap[D']? =some (.deferred (some [])):=fun D' hD'=>by
   obtain ⟨j1,j2,j3⟩:=hall D' (bm _ hD')
   exact ⟨j1,j2,by rw [hp.same D' (by rintro rfl;exact hnd.1 hD')];exact j3⟩
  have hh':=hh.put hp k1 k2 (ds:=l.map (fun D=>({target:= .collected D,args:= #[]}:Deferred))) ⟨l,rfl,hnd.2,hrest⟩
  rw [hd]
  refine ⟨by simp,.inl ⟨D,_,rfl,run_takeDeferred k3, ?_⟩⟩
  exact zF l {a with defers:=l.map (fun D=>({target:= .collected D,args:= #[]}:Deferred))} _ rfl hnd.2 hrest hh' hend
end Go.Se
namespace Go.Se
variable {P:Program}
structure c9 where
 o:Oper
 st:St
 v:SV
 u:eD
 n:Nat
 rd:List Nat
 wr:List Nat
 g:Option Nat
 ex:Bool
def c9.post(s:c9):St:=vF s.st s.o.dst s.v s.u s.n s.wr
def c9.looks(s:c9):List Nat:=s.g.toList++(if s.ex then zM s.o else [])
def c9.writes(s:c9):List Nat:=s.wr++u6 s.st.nxt (s.n - s.st.nxt)
def c9.toRec(s:c9)(i:Nat):Rec:=⟨i,s.o.dst,s.looks,s.rd,s.writes⟩
structure LB (P:Program) (all:List Oper) (s:c9):Prop where
 nxt:s.st.nxt<=s.n
 alive: ∀id,id∈s.rd\/id∈s.wr-> ∃sb,aO s.st.store id=some sb
 func:jF s.st s.u
 keys: ∀id o,(id,o)∈s.u->id∈s.wr\/(s.st.nxt<=id/\id<s.n)
 run:(s.ex=true/\gY P s.st s.o s.v s.u s.n s.rd s.wr/\
   ((s.o.guard=none/\s.g=none)\/ ∃j want t,s.o.guard=some (j,want)/\(all[j]?).bind (·.dst)=some t/\s.g=some t/\get s.st.tmps t= .bool want))\/
  (s.ex=false/\s.v= .tup []/\s.u=[]/\s.n=s.st.nxt/\s.rd=[]/\s.wr=[]/\
   ∃j want t,s.o.guard=some (j,want)/\(all[j]?).bind (·.dst)=some t/\s.g=some t/\(get s.st.tmps t= .bool (!want)\/get s.st.tmps t= .tup []))
structure KQ (a b:St):Prop where
 tmps: ∀t,get a.tmps t=get b.tmps t
 store:a.store=b.store
 nxt:a.nxt=b.nxt
 dirty:a.dirty=b.dirty
 nt:a.nt=b.nt
theorem KQ.refl(a:St):KQ a a:=⟨fun _=>rfl,rfl,rfl,rfl,rfl⟩
theorem pY{l:mQ}{t:Nat}{v:SV}(h:get l t=v)(t':Nat):get (rC l t v) t'=get l t':=by
 induction l with
 |nil=>rfl
 |cons p l ih=>
  obtain ⟨u,x⟩:=p
  simp only [get] at h
  simp only [rC]
  cases hb:Nat.beq u t with
  |true=>
   rw [hb] at h
   simp only [ar] at h
   subst h
   rfl
  |false=>
   rw [hb] at h
   simp only [ap,get]
   rw [ih h]
theorem lV{st:St}{t:Nat}{b:Bool}(h:get st.tmps t= .bool b):KQ st {st with tmps:=rC st.tmps t (.bool b)}:=
 ⟨fun t'=>(pY h t').symm,rfl,rfl,rfl,rfl⟩
inductive xN (P:Program) (all:List Oper):St->List c9->St->Prop where
 |nil (st:St):xN P all st [] st
 |cons {st st':St} {s:c9} {l:List c9}:KQ st s.st->LB P all s->xN P all s.post l st'->xN P all st (s::l) st'
def AA :Nat->List c9->List Rec
 |_,[]=>[]
 |i,s::l=>s.toRec i::AA (i+1) l
theorem nM{env:Env}(he:rA P env){all:List Oper}{K:St->List Rec->Prop}: ∀(r:List Oper) (i:Nat) (st:St) (tr:List Rec),
  nN env all r i st tr K-> ∃l st',xN P all st l st'/\l.map (·.o)=r/\K st' ((AA i l).reverse++tr)
 | [],i,st,tr,h=>⟨[],st,.nil st,rfl,h⟩
 |o::r,i,st,tr,h=>by
  have run: ∀(st2:St) (g:Option Nat),KQ st st2->
    ((o.guard=none/\g=none)\/ ∃j want t,o.guard=some (j,want)/\(all[j]?).bind (·.dst)=some t/\g=some t/\get st2.tmps t= .bool want)->
    (LG env st2 o.op fun v u n rd wr=>nN env all r (i+1) (vF st2 o.dst v u n wr) (⟨i,o.dst,g.toList++zM o,rd,wr++u6 st2.nxt (n - st2.nxt)⟩::tr) K)->
    ∃l st',xN P all st l st'/\l.map (·.o)=o::r/\K st' ((AA i l).reverse++tr):=by
   intro st2 g hs hw h
   obtain ⟨v,u,n,rd,wr,hK,hn,hal,hfu,hky,hok⟩:=aAg he (o:=o) h
   obtain ⟨l,st',hc,hl,hK'⟩:=nM he r (i+1) _ _ hK
   let s:c9:=⟨o,st2,v,u,n,rd,wr,g,true⟩
   refine ⟨s::l,st',.cons hs ⟨hn,hal,hfu,hky,.inl ⟨rfl,hok,hw⟩⟩ hc,by simp [hl,s], ?_⟩
   simp only [AA,List.reverse_cons,bo,List.singleton_append]
   exact hK'
  have skip: ∀(st2:St) (t:Nat),KQ st st2->
    (∃j want,o.guard=some (j,want)/\(all[j]?).bind (·.dst)=some t/\(get st2.tmps t= .bool (!want)\/get st2.tmps t= .tup []))->
    nN env all r (i+1) (vF st2 o.dst (.tup []) [] st2.nxt []) (⟨i,o.dst,[t],[],[]⟩::tr) K->
    ∃l st',xN P all st l st'/\l.map (·.o)=o::r/\K st' ((AA i l).reverse++tr):=by
   rintro st2 t hs ⟨j,want,h1,h2,h3⟩ h
   obtain ⟨l,st',hc,hl,hK'⟩:=nM he r (i+1) _ _ h
   let s:c9:=⟨o,st2,.tup [],[],st2.nxt,[],[],some t,false⟩
   refine ⟨s::l,st',.cons hs ⟨av _,by simp [s],jF.nil,by simp [s],.inr ⟨rfl,rfl,rfl,rfl,rfl,rfl,j,want,t,h1,h2,rfl,h3⟩⟩ hc,by simp [hl,s], ?_⟩
   have hw:s.writes=[]:=by simp [c9.writes,s,u6]
   simp only [AA,List.reverse_cons,bo,List.singleton_append,c9.toRec,hw]
   exact hK'
  simp only [nN] at h
  split at h
  ·rename_i hg
   exact run st none (KQ.refl _) (.inl ⟨hg,rfl⟩) h
  ·rename_i j want hg
   split at h
   ·exact h.elim
   ·rename_i t ht
    split at h
    ·rename_i b hb
     rcases Br.elim h with ⟨rfl,h⟩|⟨rfl,h⟩
     ·cases want
      ·exact skip _ t (lV hb) ⟨j,false,hg,ht,.inl (by rw [pY hb];exact hb)⟩ h
      ·exact run _ (some t) (lV hb) (.inr ⟨j,true,t,hg,ht,rfl,by rw [pY hb];exact hb⟩) h
     ·cases want
      ·exact run _ (some t) (lV hb) (.inr ⟨j,false,t,hg,ht,rfl,by rw [pY hb];exact hb⟩) h
      ·exact skip _ t (lV hb) ⟨j,true,hg,ht,.inl (by rw [pY hb];exact hb)⟩ h
    ·rename_i hb
     exact skip st t (KQ.refl _) ⟨j,want,hg,ht,.inr hb⟩ h
    ·exact h.elim
theorem yZ{ops:Array Oper}{tmps:Array Value}{j t:Nat}{b:Bool}(h:(ops[j]?).bind (·.dst)=some t)(hv:tmps.getD t undef= .bool b):
  yielded ops tmps j=some b:=by
 unfold yielded
 rw [h,Option.bind_some]
 rw [bv] at hv
 cases ht:tmps[t]? with
 |none=>rw [ht] at hv;simp [undef] at hv
 |some x=>rw [ht] at hv;simp only [Option.getD_some] at hv;rw [hv]
theorem HG{ops:Array Oper}{tmps:Array Value}{j t:Nat}(h:(ops[j]?).bind (·.dst)=some t)(hv:tmps.getD t undef= .tuple #[]):
  yielded ops tmps j=none:=by
 unfold yielded
 rw [h,Option.bind_some]
 rw [bv] at hv
 cases ht:tmps[t]? with
 |none=>rfl
 |some x=>rw [ht] at hv;simp only [Option.getD_some] at hv;rw [hv]
theorem WB {ops:Array Oper} {s:c9} (hs:LB P ops.toList s) {i:Nat} (hi:ops[i]? =some s.o)
  {B:mW P} {tm:Nat->SV} {sf:Nat->Option SB} {A A':Nat->Prop} {D D':List Nat} {nt:Nat} {a:Act} {w:World} {ρ:aL} {T:Nat->Prop}
  (h:iL B tm sf A D nt a w ρ T) (htm: ∀t,t∈s.looks->tm t=get s.st.tmps t) (hsf: ∀id,id∈s.rd\/id∈s.wr->sf id=aO s.st.store id)
  (hnew: ∀id,s.st.nxt<=id->id<s.n-> ¬A id) (hB:B.n<=s.st.nxt) (hdst: ∀d,s.o.dst=some d->d<nt) (hlt: ∀id sb,aO s.st.store id=some sb->id<s.st.nxt)
  (hD: ∀p,p∈D->p∈D') (hD': ∀p,p∈s.wr->p∈D') (hA: ∀id,A' id↔A id\/(s.st.nxt<=id/\id<s.n))
  {K:Act->World->Prop} {Q:Exit->Act->World->Prop} (hK: ∀a' w' ρ' T',iL B (upd tm s.o.dst s.v) (qN sf s.u) A' D' nt a' w' ρ' T'->K a' w') {F:Fence} {n:Nat} (hF:Wd F):
  wpOpIn F n P ops Q i K a w:=by
 unfold wpOpIn
 rw [hi]
 simp only
 have hsome: ∀id,id∈s.rd\/id∈s.wr->(sf id).isSome:=by
  intro id hid
  obtain ⟨sb,hsb⟩:=hs.alive id hid
  rw [hsf id hid,hsb];rfl
 have hgt: ∀(j t:Nat),(ops.toList[j]?).bind (fun (x:Oper)=>x.dst)=some t->(ops[j]?).bind (fun (x:Oper)=>x.dst)=some t:=by
  intro j t h;rw [bt] at h;exact h
 rcases hs.run with ⟨hex,hok,hw⟩|⟨hex,hv,hu,hn,hrd,hwr,j,want,t,hg,ht,hgt',hval⟩
 ·have hwant:Region.wanted s.o (yielded ops a.tmps)=true:=by
   rcases hw with ⟨hg,_⟩|⟨j,want,t,hg,ht,hgt',hval⟩
   ·simp [Region.wanted,hg]
   ·have h1:=h.tmps t
    rw [htm t (by simp [c9.looks,hgt']),hval] at h1
    have h2:a.tmps.getD t undef= .bool want:=h1
    simp [Region.wanted,hg,yZ (hgt j t ht) h2]
  rw [hwant]
  simp only [if_true]
  refine hok ρ T a w K Q ?_ ?_ ?_ ⟨fun id b hid=>(h.names id b hid).2,h.inv⟩ ?_ ?_ F n hF
  ·intro x hx
   refine P4 fun t hxt=> ?_
   subst hxt
   have:=h.tmps t
   rw [htm t] at this
   ·exact this
   ·simp only [c9.looks,hex,if_true,ct]
    right
    simp only [zM,gn]
    exact ⟨.tmp t,by simpa using hx,rfl⟩
  ·intro id hid
   obtain ⟨sb,hsb⟩:=hs.alive id hid
   obtain ⟨_,b,h1,h2,h3⟩:=h.store id sb (by rw [hsf id hid];exact hsb)
   exact ⟨sb,b,hsb,h1,h2,h3⟩
  ·intro p q b hp hq h1 h2
   exact h.inj p q b (hsome p hp) (hsome q hq) h1 h2
  ·intro id h1 h2
   cases hρ:ρ id with
   |none=>rfl
   |some b=>exact absurd (h.names id b hρ).1 (hnew id h1 h2)
  ·intro x w' ρ' T' hd
   exact hK _ _ ρ' T' (h.done hd hdst hB hnew (fun id hid=>hsome id (.inr hid)) (hs.func hlt) hD hD' hA)
 ·have hwant:Region.wanted s.o (yielded ops a.tmps)=false:=by
   have h1:=h.tmps t
   rw [htm t (by simp [c9.looks,hgt'])] at h1
   rcases hval with hval|hval
   ·rw [hval] at h1
    have h2:a.tmps.getD t undef= .bool (!want):=h1
    simp only [Region.wanted,hg,yZ (hgt j t ht) h2]
    cases want<;>rfl
   ·rw [hval] at h1
    obtain ⟨vs,h2,h3⟩:=h1
    have h4:vs.toList=[]:=h3
    have h5:vs= #[]:=by apply fw;exact h4
    subst h5
    simp only [Region.wanted,hg,HG (hgt j t ht) h2]
    rfl
  rw [hwant]
  simp only [bz,ea]
  refine ⟨fun f _=>hF.fn f,hK _ _ ρ T ?_⟩
  rw [hv,hu]
  exact h.done (gX.pure (n:=s.st.nxt) (v:= .tup []) (x:=undef) ⟨#[],rfl,rfl⟩) hdst hB (fun id h1 h2=>by omega) (by simp) (by simp) hD (by simp) (by rw [hn] at hA;exact hA)
def pT(s:c9)(t:Nat):Option SV:=match s.o.dst with
 |some d=>if t=d then some s.v else none
 |none=>none
def ES(u:eD)(id:Nat):Option (Option SB):=
 match u with
 | []=>none
 |(i,o)::u=>if id=i then some o else ES u id
def pS(s:c9)(id:Nat):Option (Option SB):=ES s.u id
section
variable {β:Type}
def vJ(f:Nat->β)(p:Nat->Option β):Nat->β:=fun t=>match p t with
 |some b=>b
 |none=>f t
def d6(p:c9->Nat->Option β)(S:Nat->Bool):Nat->List c9->(Nat->β)->Nat->β
 |_,[],f=>f
 |k,s::l,f=>d6 p S (k+1) l (if S k then vJ f (p s) else f)
theorem tN(p:c9->Nat->Option β)(S:Nat->Bool): ∀(l1 l2:List c9) (o:Nat) (f:Nat->β),
  d6 p S o (l1++l2) f=d6 p S (o+l1.length) l2 (d6 p S o l1 f)
 | [],l2,o,f=>rfl
 |s::l1,l2,o,f=>by
  simp only [gk,d6,az]
  rw [tN p S l1 l2 (o+1),show o+1+l1.length=o+(l1.length+1) by omega]
theorem i1{p:c9->Nat->Option β}{S S':Nat->Bool}{t:Nat}: ∀(l:List c9) (o:Nat) (f f':Nat->β),
  (∀k s,l[k]? =some s->(p s t).isSome->S (o+k)=S' (o+k))->f t=f' t->d6 p S o l f t=d6 p S' o l f' t
 | [],o,f,f',_,h=>h
 |s::l,o,f,f',hk,h=>by
  simp only [d6]
  refine i1 l (o+1) _ _ (fun k s' hs hp=> ?_) ?_
  ·have:=hk (k+1) s' (by simpa using hs) hp
   rw [show o+1+k=o+(k+1) by omega];exact this
  ·cases hp:p s t with
   |none=>
    have h1:(if S o then vJ f (p s) else f) t=f t:=by split<;>simp [vJ,hp]
    have h2:(if S' o then vJ f' (p s) else f') t=f' t:=by split<;>simp [vJ,hp]
    rw [h1,h2,h]
   |some b=>
    have:=hk 0 s (by simp) (by rw [hp];rfl)
    rw [Nat.add_zero] at this
    rw [this]
    split
    ·simp [vJ,hp]
    ·exact h
theorem H2 {p:c9->Nat->Option β} {S S':Nat->Bool} {l:List c9} {i:Nat} {s:c9} (hi:l[i]? =some s) (hS: ∀k,k≠i->S' k=S k) (h1:S' i=true) (h0:S i=false)
  {f:Nat->β} {t:Nat} (hlast:(p s t).isSome-> ∀k s',l[k]? =some s'->i<k->(p s' t).isSome->S k=false):
  d6 p S' 0 l f t=vJ (d6 p S 0 l f) (p s) t:=by
 obtain ⟨hlt,hget⟩:=ca.1 hi
 have hsplit:l=l.take i++s::l.drop (i+1):=by
  rw [<- hget,<- dz hlt,List.take_append_drop]
 have hlen:(l.take i).length=i:=by simp;omega
 have hg:d6 p S' 0 (l.take i) f=d6 p S 0 (l.take i) f:=by
  funext t
  refine i1 _ _ _ _ (fun k s' hs _=> ?_) rfl
  rw [bi]
  refine hS k ?_
  have:=(ca.1 hs).1
  omega
 have e1:d6 p S' 0 l f=d6 p S' (i+1) (l.drop (i+1)) (vJ (d6 p S 0 (l.take i) f) (p s)):=by
  conv=>lhs;rw [hsplit]
  rw [tN,hlen,bi,d6,h1,hg];rfl
 have e2:d6 p S 0 l f=d6 p S (i+1) (l.drop (i+1)) (d6 p S 0 (l.take i) f):=by
  conv=>lhs;rw [hsplit]
  rw [tN,hlen,bi,d6,h0];rfl
 rw [e1,vJ,e2]
 cases hp:p s t with
 |none=>
  refine i1 _ _ _ _ (fun k s' _ _=>hS _ (by omega)) ?_
  simp [vJ,hp]
 |some b=>
  have:d6 p S' (i+1) (l.drop (i+1)) (vJ (d6 p S 0 (l.take i) f) (p s)) t=d6 p (fun _=>false) (i+1) (l.drop (i+1)) (vJ (d6 p S 0 (l.take i) f) (p s)) t:=by
   refine i1 _ _ _ _ (fun k s' hs hps=> ?_) rfl
   rw [hS _ (by omega)]
   refine hlast (by rw [hp];rfl) (i+1+k) s' ?_ (by omega) hps
   rw [bu] at hs;exact hs
  rw [this]
  have hno: ∀(l:List c9) (o:Nat) (f:Nat->β),d6 p (fun _=>false) o l f=f:=by
   intro l
   induction l with
   |nil=>intro o f;rfl
   |cons s l ih=>intro o f;simp [d6,ih]
  rw [hno]
  simp [vJ,hp]
end
theorem UX(f:Nat->SV)(s:c9):upd f s.o.dst s.v=vJ f (pT s):=by
 funext t
 unfold upd vJ pT
 cases s.o.dst with
 |none=>rfl
 |some d=>by_cases h:t=d<;>simp [h]
theorem LE(f:Nat->Option SB)(s:c9):qN f s.u=vJ f (pS s):=by
 funext id
 unfold vJ pS
 generalize s.u=u
 induction u with
 |nil=>rfl
 |cons p u ih=>
  obtain ⟨i,o⟩:=p
  by_cases h:id=i
  ·simp [qN,ES,h]
  ·simp only [qN,ES,h,ea];exact ih
theorem EF(s:c9):get s.post.tmps=upd (get s.st.tmps) s.o.dst s.v:=by
 funext t
 unfold c9.post vF upd
 cases s.o.dst with
 |none=>rfl
 |some d=>
  simp only [get]
  by_cases h:t=d
  ·subst h;simp
  ·have:Nat.beq d t=false:=by rw [cf];intro e;exact h (ai e).symm
   simp [this,h]
theorem wO(s:c9):aO s.post.store=qN (aO s.st.store) s.u:=by
 funext id
 exact A1 _ _ _
theorem fY : ∀(r l:List Nat) (x:Nat),x∈kT l r↔x∈l\/x∈r
 | [],l,x=>by simp [kT]
 |y::r,l,x=>by
  simp only [kT]
  cases h:l.any (Nat.beq y) with
  |true=>
   have:=mN.1 h
   simp only [ar]
   rw [fY r l x,cb]
   constructor
   ·rintro (h|h)
    ·exact .inl h
    ·exact .inr (.inr h)
   ·rintro (h|rfl|h)
    ·exact .inl h
    ·exact .inl this
    ·exact .inr h
  |false=>
   simp only [ap]
   rw [fY r (y::l) x,cb,cb]
   constructor
   ·rintro ((rfl|h)|h)
    ·exact .inr (.inl rfl)
    ·exact .inl h
    ·exact .inr (.inr h)
   ·rintro (h|rfl|h)
    ·exact .inl (.inr h)
    ·exact .inl (.inl rfl)
    ·exact .inr h
def Now(B:mW P)(st:St)(a:Act)(w:World):Prop:=
 B.n<=st.nxt/\ ∃ρ T,iL B (get st.tmps) (aO st.store) (fun id=>id<st.nxt) st.dirty st.nt a w ρ T
theorem TQ{ops:Array Oper}{Q:Exit->Act->World->Prop}{B:mW P}{F:Fence}{n:Nat}(hF:Wd F): ∀{l:List c9} {st st':St},xN P ops.toList st l st'-> ∀(k:Nat) (a:Act) (w:World),
  (∀j,(l.map (·.o))[j]? =ops[k+j]?)->Now B st a w->(∀s∈l,∀d,s.o.dst=some d->d<st.nt)->
  (∀a' w',Now B st' a' w'->Q .normal a' w')->wpOpsIn F n P ops Q (List.range' k l.length) a w:=by
 intro l st st' hc
 induction hc with
 |nil st=>intro k a w _ h _ hQ;exact hQ a w h
 | @cons st st' s l hsame hok hc ih=>
  intro k a w hops ⟨hB,ρ,T,h⟩ hd hQ
  simp only [az,List.range'_succ]
  rw [wpOpsIn_cons]
  have hi:ops[k]? =some s.o:=by have:=hops 0;simp at this;exact this.symm
  have ht:get st.tmps=get s.st.tmps:=funext hsame.tmps
  have h0:=h
  rw [ht,hsame.store,hsame.nxt,hsame.dirty,hsame.nt] at h0
  rw [hsame.nxt] at hB
  refine WB hok hi h0 (fun _ _=>rfl) (fun _ _=>rfl) (fun id h1 _ h2=>by omega) hB (fun d hdst=>by have:=hd s (by simp) d hdst;rw [hsame.nt] at this;exact this)
   (fun id sb hl=>(h0.store id sb hl).1) (D':=s.post.dirty) (A':=fun id=>id<s.post.nxt) ?_ ?_ ?_ ?_ hF
  ·intro p hp;exact (fY _ _ _).2 (.inl hp)
  ·intro p hp;exact (fY _ _ _).2 (.inr hp)
  ·intro id
   show id<s.n↔id<s.st.nxt\/(s.st.nxt<=id/\id<s.n)
   have:=hok.nxt
   omega
  ·intro a' w' ρ' T' h1
   refine ih (k+1) a' w' (fun j=> ?_) ⟨fu hB hok.nxt,ρ',T', ?_⟩ (fun s' hs' d hdst=> ?_) hQ
   ·have:=hops (j+1)
    rw [show k+1+j=k+(j+1) by omega];simpa using this
   ·rw [EF,wO];exact h1
   ·have:=hd s' (by simp [hs']) d hdst
    rw [hsame.nt] at this;exact this
end Go.Se
namespace Go.Se
variable {P:Program}
structure aKR (P:Program) (all:List Oper) (o:Nat) (st st':St) (l:List c9) (i:Nat) (s:c9):Prop where
 ok:LB P all s
 tm:get s.st.tmps=d6 pT (fun k=>decide (k<o+i)) o l (get st.tmps)
 sf:aO s.st.store=d6 pS (fun k=>decide (k<o+i)) o l (aO st.store)
 nt:s.st.nt=st.nt
 lo:st.nxt<=s.st.nxt
 hi:s.n<=st'.nxt
 after: ∀(k:Nat) (s':c9),l[k]? =some s'->i<k->s.n<=s'.st.nxt
 wr: ∀p,p∈s.wr->p∈st'.dirty
 scope:(∀id sb,aO st.store id=some sb->id<st.nxt)-> ∀id sb,aO s.st.store id=some sb->id<s.st.nxt
theorem qI{β:Type}(p:c9->Nat->Option β)(S:Nat->Bool): ∀(l:List c9) (o:Nat) (f:Nat->β),(∀k,o<=k->S k=false)->d6 p S o l f=f
 | [],_,_,_=>rfl
 |s::l,o,f,h=>by
  simp only [d6,h o (av _),bz,ea]
  exact qI p S l (o+1) f fun k hk=>h k (by omega)
structure aBe (st st':St) (l:List c9) (o:Nat):Prop where
 tm:get st'.tmps=d6 pT (fun _=>true) o l (get st.tmps)
 sf:aO st'.store=d6 pS (fun _=>true) o l (aO st.store)
 nt:st'.nt=st.nt
 dirty: ∀p,p∈st.dirty->p∈st'.dirty
 nxt: ∀id,id<st'.nxt↔id<st.nxt\/ ∃(k:Nat) (s:c9),l[k]? =some s/\s.st.nxt<=id/\id<s.n
 le:st.nxt<=st'.nxt
theorem yK{all:List Oper}{st st':St}{l:List c9}(hc:xN P all st l st'): ∀o,aBe st st' l o:=by
 induction hc with
 |nil st=>exact fun o=>⟨rfl,rfl,rfl,fun _ h=>h,fun id=>by simp,av _⟩
 | @cons st st' s l hsame hok hc ih=>
  intro o
  have h:=ih (o+1)
  have ht:get st.tmps=get s.st.tmps:=funext hsame.tmps
  refine ⟨?_, ?_, ?_, ?_, ?_, ?_⟩
  ·rw [h.tm,EF,UX,ht];rfl
  ·rw [h.sf,wO,LE,hsame.store];rfl
  ·rw [h.nt,hsame.nt];rfl
  ·intro p hp
   rw [hsame.dirty] at hp
   exact h.dirty p ((fY _ _ _).2 (.inl hp))
  ·intro id
   rw [h.nxt id]
   have hn:s.post.nxt=s.n:=rfl
   have hle:=hok.nxt
   rw [hn,hsame.nxt]
   constructor
   ·rintro (h1|⟨k,s',h1,h2⟩)
    ·by_cases h2:id<s.st.nxt
     ·exact .inl h2
     ·exact .inr ⟨0,s,rfl,by omega,h1⟩
    ·exact .inr ⟨k+1,s',by simpa using h1,h2⟩
   ·rintro (h1|⟨k,s',h1,h2,h3⟩)
    ·left;omega
    ·cases k with
     |zero=>simp at h1;subst h1;exact .inl h3
     |succ k=>exact .inr ⟨k,s',by simpa using h1,h2,h3⟩
  ·have:=h.le
   have hn:s.post.nxt=s.n:=rfl
   have hle:=hok.nxt
   rw [hsame.nxt];omega
theorem DU{all:List Oper}{st st':St}{l:List c9}(hc:xN P all st l st'): ∀(o i:Nat) (s:c9),l[i]? =some s->aKR P all o st st' l i s:=by
 induction hc with
 |nil st=>intro o i s h;simp at h
 | @cons st st' s0 l hsame hok hc ih=>
  intro o i s hi
  have ht:get st.tmps=get s0.st.tmps:=funext hsame.tmps
  have hends:=yK hc (o+1)
  cases i with
  |zero=>
   simp only [cv,an] at hi
   subst hi
   refine ⟨hok, ?_, ?_,hsame.nt.symm,by rw [hsame.nxt];exact av _,hends.le, ?_, ?_, ?_⟩
   ·rw [qI _ _ _ _ _ (fun k hk=>by simp;omega),ht]
   ·rw [qI _ _ _ _ _ (fun k hk=>by simp;omega),hsame.store]
   ·intro k s' hk hlt
    obtain ⟨j,rfl⟩: ∃j,k=j+1:=⟨k - 1,by omega⟩
    exact (ih (o+1) j s' (by simpa using hk)).lo
   ·intro p hp
    exact hends.dirty p ((fY _ _ _).2 (.inr hp))
   ·intro h id sb hid
    rw [hsame.store,hsame.nxt] at h
    exact h id sb hid
  |succ i=>
   have h:=ih (o+1) i s (by simpa using hi)
   refine ⟨h.ok, ?_, ?_,h.nt.trans hsame.nt.symm, ?_,h.hi, ?_,h.wr, ?_⟩
   ·rw [h.tm,EF,UX,<- ht]
    simp only [d6,show decide (o<o+(i+1))=true by simp,if_true]
    rw [show o+1+i=o+(i+1) by omega]
   ·rw [h.sf,wO,LE,<- hsame.store]
    simp only [d6,show decide (o<o+(i+1))=true by simp,if_true]
    rw [show o+1+i=o+(i+1) by omega]
   ·have h1:=h.lo
    have hn:s0.post.nxt=s0.n:=rfl
    have:=hok.nxt
    rw [hsame.nxt];omega
   ·intro k s' hk hlt
    obtain ⟨j,rfl⟩: ∃j,k=j+1:=⟨k - 1,by omega⟩
    exact h.after j s' (by simpa using hk) (by omega)
   ·intro hlt
    refine h.scope fun id sb hid=> ?_
    rw [hsame.store,hsame.nxt] at hlt
    rw [wO] at hid
    have hn:s0.post.nxt=s0.n:=rfl
    have hle:=hok.nxt
    rw [hn]
    rcases nG (aO s0.st.store) s0.u id with ⟨o',h1,h2⟩|⟨_,h2⟩
    ·rcases hok.keys id o' h1 with h3|h3
     ·obtain ⟨sb',hsb'⟩:=hok.alive id (.inr h3)
      have:=hlt id sb' hsb'
      omega
     ·exact h3.2
    ·rw [h2] at hid
     have:=hlt id sb hid
     omega
theorem vO{bs:List Nat}: ∀{tr:List Rec},lR bs tr=true->tr.Pairwise fun b a=>uA a b=true->(bs.getD b.i 0).testBit a.i=true
 | [],_=>List.Pairwise.nil
 |b::r,h=>by
  simp only [lR,af,gb] at h
  refine List.Pairwise.cons (fun a ha hcl=> ?_) (vO h.2)
  have:=h.1 a ha
  rw [hcl] at this
  simpa using this
theorem GN : ∀(l:List c9) (o i:Nat),(AA o l)[i]? =(l[i]?).map (·.toRec (o+i))
 | [],o,i=>by simp [AA]
 |s::l,o,0=>by simp [AA]
 |s::l,o,i+1=>by
  simp only [AA,ff]
  rw [GN l (o+1) i,show o+1+i=o+(i+1) by omega]
theorem B2 {bs:List Nat} {l:List c9} (h:lR bs (AA 0 l).reverse=true) {i j:Nat} {s s':c9} (hi:l[i]? =some s) (hj:l[j]? =some s') (hlt:i<j)
  (hcl:uA (s.toRec i) (s'.toRec j)=true):(bs.getD j 0).testBit i=true:=by
 have hp:=List.pairwise_reverse.1 (vO h)
 have h1:(AA 0 l)[i]? =some (s.toRec i):=by rw [GN,hi];simp
 have h2:(AA 0 l)[j]? =some (s'.toRec j):=by rw [GN,hj];simp
 obtain ⟨hi',e1⟩:=ca.1 h1
 obtain ⟨hj',e2⟩:=ca.1 h2
 have:=List.pairwise_iff_getElem.1 hp i j hi' hj' hlt
 rw [e1,e2] at this
 exact this hcl
def aE0(acc:List Nat)(o:Oper):Nat:=o.after.toList.foldl (fun s e=>bif Region.binds .any e then s|||(1<<<e.on)|||acc.getD e.on 0 else s) 0
theorem IQ{acc:List Nat}{a:Nat}: ∀(es:List Edge) (s:Nat),(es.foldl (fun s e=>bif Region.binds .any e then s|||(1<<<e.on)|||acc.getD e.on 0 else s) s).testBit a=true->
  s.testBit a=true\/ ∃e∈es,Region.binds .any e=true/\(e.on=a\/(acc.getD e.on 0).testBit a=true)
 | [],s,h=> .inl h
 |e::es,s,h=>by
  rw [List.foldl_cons] at h
  rcases IQ es _ h with h1|⟨e',h1,h2⟩
  ·cases hb:Region.binds .any e with
   |false=>rw [hb] at h1;exact .inl h1
   |true=>
    rw [hb] at h1
    simp only [ar,Nat.testBit_or,Bool.or_eq_true] at h1
    rcases h1 with (h1|h1)|h1
    ·exact .inl h1
    ·right
     refine ⟨e,by simp,hb,.inl ?_⟩
     rw [Nat.testBit_shiftLeft] at h1
     simp only [af,ak] at h1
     have h3:=h1.2
     rw [show (1:Nat)=2^0 from rfl,Nat.testBit_two_pow] at h3
     simp at h3
     omega
    ·exact .inr ⟨e,by simp,hb,.inr h1⟩
  ·exact .inr ⟨e',by simp [h1],h2⟩
theorem uR : ∀(r:List Oper) (acc:List Nat) (j:Nat),j<acc.length->(k9 r acc).getD j 0=acc.getD j 0
 | [],acc,j,_=>rfl
 |o::r,acc,j,h=>by
  simp only [k9]
  rw [uR r _ j (by simp;omega)]
  simp only [bc]
  rw [fh h]
theorem BO : ∀(r:List Oper) (acc:List Nat) (i:Nat) (o:Oper),r[i]? =some o->
  ∃acc',acc'.length=acc.length+i/\(k9 r acc).getD (acc.length+i) 0=aE0 acc' o/\ ∀j,j<acc.length+i->(k9 r acc).getD j 0=acc'.getD j 0
 | [],acc,i,o,h=>by simp at h
 |o0::r,acc,0,o,h=>by
  simp only [cv,an] at h
  subst h
  refine ⟨acc,rfl, ?_,fun j hj=> ?_⟩
  ·simp only [k9]
   rw [uR r _ _ (by simp)]
   simp only [bc,Nat.add_zero]
   rw [fr (av _)]
   simp [aE0]
  ·simp only [k9]
   rw [uR r _ _ (by simp;omega)]
   simp only [bc]
   rw [fh (by omega)]
 |o0::r,acc,i+1,o,h=>by
  simp only [ff] at h
  simp only [k9]
  obtain ⟨acc',h1,h2,h3⟩:=BO r (acc++[o0.after.toList.foldl (fun s e=>bif Region.binds .any e then s|||(1<<<e.on)|||acc.getD e.on 0 else s) 0]) i o h
  simp only [au,gi] at h1 h2 h3
  exact ⟨acc',by omega,by rw [show acc.length+(i+1)=acc.length+1+i by omega];exact h2,fun j hj=>h3 j (by omega)⟩
theorem FM : ∀{ops:List Oper} {k:Nat},pH k ops=true-> ∀i o,ops[i]? =some o-> ∀e∈o.after,Region.binds .any e=true->e.on<k+i
 | [],_,_,i,o,h,_,_,_=>by simp at h
 |o0::r,k,h,0,o,ho,e,he,hb=>by
  simp only [pH,af,gb] at h
  simp only [cv,an] at ho
  subst ho
  have:=h.1 e (by simpa using he)
  rw [hb] at this
  simpa using this
 |o0::r,k,h,i+1,o,ho,e,he,hb=>by
  simp only [pH,af] at h
  have:=FM h.2 i o (by simpa using ho) e he hb
  omega
theorem EH{ops:List Oper}(hedge:pH 0 ops=true){S:Nat->Bool}(hdown: ∀j o,ops[j]? =some o->S j=true-> ∀e∈o.after,Region.binds .any e=true->S e.on=true):
  ∀(j:Nat) (o:Oper) (a:Nat),ops[j]? =some o->(∀e∈o.after,Region.binds .any e=true->S e.on=true)->((k9 ops []).getD j 0).testBit a=true->S a=true:=by
 intro j
 induction j using Nat.strongRecOn with
 |_ j ih=>
  intro o a ho hS hbit
  obtain ⟨acc',h1,h2,h3⟩:=BO ops [] j o ho
  simp only [bw,bi] at h1 h2 h3
  rw [h2] at hbit
  rcases IQ _ _ hbit with h4|⟨e,he,hb,h4⟩
  ·simp at h4
  ·have he':e∈o.after:=by simpa using he
   have hlt:=FM hedge j o ho e he' hb
   rw [bi] at hlt
   rcases h4 with h4|h4
   ·rw [<- h4];exact hS e he' hb
   ·rw [<- h3 e.on hlt] at h4
    have hSe:=hS e he' hb
    have hj:j<ops.length:=(ca.1 ho).1
    have hon:ops[e.on]? =some ops[e.on]:=be (by omega)
    exact ih e.on hlt ops[e.on] a hon (hdown e.on _ hon hSe) h4
theorem wT{a b:List Nat}:zT a b=true↔ ∃x,x∈a/\x∈b:=by
 unfold zT
 rw [List.any_eq_true]
 constructor
 ·rintro ⟨x,hx,h⟩;exact ⟨x,hx,mN.1 h⟩
 ·rintro ⟨x,hx,h⟩;exact ⟨x,hx,mN.2 h⟩
theorem D9 : ∀(k a x:Nat),x∈u6 a k↔a<=x/\x<a+k
 |0,a,x=>by simp [u6]
 |k+1,a,x=>by
  rw [u6,cb,D9 k (a+1) x];omega
theorem FZ{s:c9}{x:Nat}(h:s.st.nxt<=s.n):x∈s.writes↔x∈s.wr\/(s.st.nxt<=x/\x<s.n):=by
 unfold c9.writes
 rw [ct,D9]
 constructor
 ·rintro (h1|h1)
  ·exact .inl h1
  ·right;omega
 ·rintro (h1|h1)
  ·exact .inl h1
  ·right;omega
theorem LF{s:c9}{t:Nat}:(pT s t).isSome↔s.o.dst=some t:=by
 unfold pT
 cases s.o.dst with
 |none=>simp
 |some d=>
  by_cases h:t=d
  ·simp [h]
  ·simp only [h,ea,Option.isSome_none,bz,an,false_iff]
   exact fun h'=>h h'.symm
theorem H1 : ∀{u:eD} {id:Nat},(ES u id).isSome-> ∃o,(id,o)∈u
 | [],id,h=>by simp [ES] at h
 |(i,o)::u,id,h=>by
  simp only [ES] at h
  by_cases e:id=i
  ·subst e;exact ⟨o,by simp⟩
  ·rw [if_neg e] at h
   obtain ⟨o',ho'⟩:=H1 h
   exact ⟨o',by simp [ho']⟩
theorem JT : ∀(l:List Bool) (i:Nat),l[i]? =some false->((l.set i true).filter (!·)).length+1=(l.filter (!·)).length
 | [],i,h=>by simp at h
 |b::l,0,h=>by
  simp only [cv,an] at h
  subst h;simp
 |b::l,i+1,h=>by
  have:=JT l i (by simpa using h)
  cases b<;>simp [this]
section
variable {ops:Array Oper} {Q:Exit->Act->World->Prop} {B:mW P} {l:List c9} {st0 stm:St}
def BP(st0:St)(l:List c9)(S:Nat->Bool)(id:Nat):Prop:=id<st0.nxt\/ ∃(k:Nat) (s:c9),l[k]? =some s/\S k=true/\s.st.nxt<=id/\id<s.n
theorem OC{s:c9}(hs:LB P ops.toList s){id:Nat}(h:(pS s id).isSome):id∈s.writes:=by
 obtain ⟨o,ho⟩:=H1 h
 exact (FZ hs.nxt).2 (hs.keys id o ho)
theorem Y4 (hc:xN P ops.toList st0 l stm) (hl:l.map (·.o)=ops.toList) (hfix:lR (k9 ops.toList []) (AA 0 l).reverse=true) (hedge:pH 0 ops.toList=true)
  (hdst: ∀s∈l,∀d,s.o.dst=some d->d<st0.nt) (hQ: ∀a' w',Now B stm a' w'->Q .normal a' w') (hB:B.n<=st0.nxt)
  (hlt0: ∀id sb,aO st0.store id=some sb->id<st0.nxt) {F:Fence} {n:Nat} (hF:Wd F):
  ∀(fuel:Nat) (listed:Array Bool) (a:Act) (w:World),listed.size=ops.size->(listed.toList.filter (!·)).length<=fuel->
   (∀j o,ops[j]? =some o->listed.getD j false=true-> ∀e∈o.after,Region.binds .any e=true->listed.getD e.on false=true)->
   (∃ρ T,iL B (d6 pT (fun k=>listed.getD k false) 0 l (get st0.tmps)) (d6 pS (fun k=>listed.getD k false) 0 l (aO st0.store))
    (BP st0 l (fun k=>listed.getD k false)) stm.dirty st0.nt a w ρ T)->
   wpAnyIn F n P .any ops Q fuel listed a w:=by
 have hlen:l.length=ops.size:=by have:=congrArg List.length hl;simpa using this
 have hops: ∀(i:Nat) (s:c9),l[i]? =some s->ops[i]? =some s.o:=by
  intro i s h
  have:(l.map (·.o))[i]? =some s.o:=by simp [h]
  rw [hl] at this
  rw [<- bt];exact this
 have hends:=yK hc 0
 have hall: ∀(listed:Array Bool) (a:Act) (w:World),listed.size=ops.size->(∀k,k<ops.size->listed.getD k false=true)->
   (∃ρ T,iL B (d6 pT (fun k=>listed.getD k false) 0 l (get st0.tmps)) (d6 pS (fun k=>listed.getD k false) 0 l (aO st0.store))
    (BP st0 l (fun k=>listed.getD k false)) stm.dirty st0.nt a w ρ T)->Q .normal a w:=by
  rintro listed a w hsz hfull ⟨ρ,T,h⟩
  have hk: ∀(k:Nat) (s:c9),l[k]? =some s->listed.getD k false=true:=fun k s hs=>hfull k (by have:=(ca.1 hs).1;omega)
  have e1:d6 pT (fun k=>listed.getD k false) 0 l (get st0.tmps)=get stm.tmps:=by
   rw [hends.tm];funext t
   exact i1 _ _ _ _ (fun k s hs _=>by rw [bi];exact hk k s hs) rfl
  have e2:d6 pS (fun k=>listed.getD k false) 0 l (aO st0.store)=aO stm.store:=by
   rw [hends.sf];funext t
   exact i1 _ _ _ _ (fun k s hs _=>by rw [bi];exact hk k s hs) rfl
  have e3:BP st0 l (fun k=>listed.getD k false)=fun id=>id<stm.nxt:=by
   funext id
   apply propext
   rw [hends.nxt id]
   unfold BP
   constructor
   ·rintro (h|⟨k,s,h1,_,h2⟩)
    ·exact .inl h
    ·exact .inr ⟨k,s,h1,h2⟩
   ·rintro (h|⟨k,s,h1,h2⟩)
    ·exact .inl h
    ·exact .inr ⟨k,s,h1,hk k s h1,h2⟩
  rw [e1,e2,e3,<- hends.nt] at h
  exact hQ a w ⟨fu hB hends.le,ρ,T,h⟩
 have hready: ∀(listed:Array Bool),listed.size=ops.size->Region.ready .any ops listed=[]-> ∀k,k<ops.size->listed.getD k false=true:=by
  intro listed hsz hr k
  induction k using Nat.strongRecOn with
  |_ k ih=>
   intro hk
   cases hlk:listed.getD k false with
   |true=>rfl
   |false=>
    exfalso
    have hmem:k∈Region.ready .any ops listed:=by
     rw [mem_ready]
     refine ⟨?_,ops[k],cl hk,fun e he hb=> ?_⟩
     ·simp only [bv] at hlk|-
      rw [cl (by omega)] at hlk|-
      exact hlk
     ·have:=FM hedge k ops[k] (by rw [bt];exact cl hk) e he hb
      exact ih e.on (by omega) (by omega)
    rw [hr] at hmem;cases hmem
 intro fuel
 induction fuel with
 |zero=>
  intro listed a w hsz hcount hdown hinv
  have hfull: ∀k,k<ops.size->listed.getD k false=true:=by
   intro k hk
   cases hlk:listed.getD k false with
   |true=>rfl
   |false=>
    exfalso
    have hf:false∈listed.toList.filter (!·):=by
     rw [List.mem_filter]
     refine ⟨?_,rfl⟩
     have:listed[k]? =some false:=by
      simp only [bv] at hlk
      rw [cl (by omega)] at hlk|-
      simpa using hlk
     exact Array.mem_def.1 (Array.mem_of_getElem? this)
    have:=List.length_pos_of_mem hf
    omega
  refine ⟨?_,hall listed a w hsz hfull hinv⟩
  rw [List.eq_nil_iff_forall_not_mem]
  intro j hj
  rw [mem_ready] at hj
  obtain ⟨h1,o,ho,_⟩:=hj
  have hj':=(bk.1 ho).1
  have h2:=hfull j hj'
  simp only [bv] at h1 h2
  rw [cl (by omega)] at h1 h2
  simp only [Option.getD_some] at h1 h2
  rw [h1] at h2;cases h2
 |succ fuel ih=>
  intro listed a w hsz hcount hdown hinv
  refine ⟨fun hr=>hall listed a w hsz (hready listed hsz hr) hinv,fun i hi=> ?_⟩
  rw [mem_ready] at hi
  obtain ⟨hi0,o,ho,hedges⟩:=hi
  have hilt:i<ops.size:=(bk.1 ho).1
  have hil:i<l.length:=by omega
  obtain ⟨s,hs⟩: ∃s,l[i]? =some s:=⟨l[i],be hil⟩
  have hso:s.o=o:=by have:=hops i s hs;rw [ho] at this;cases this;rfl
  subst hso
  have hat:=DU hc 0 i s hs
  have hattm:=hat.tm
  have hatsf:=hat.sf
  simp only [bi] at hattm hatsf
  have hSi:listed.getD i false=false:=by
   simp only [bv] at hi0|-
   rw [cl (by omega)] at hi0|-
   exact hi0
  let S:Nat->Bool:=fun k=>listed.getD k false
  have hdownL: ∀j o,ops.toList[j]? =some o->S j=true-> ∀e∈o.after,Region.binds .any e=true->S e.on=true:=by
   intro j o hj;rw [bt] at hj;exact hdown j o hj
  have hclash: ∀(k:Nat) (s':c9),l[k]? =some s'->k≠i->(∀x y:Nat×c9,x=(k,s')\/y=(k,s')->x.1<y.1->(x=(i,s)\/y=(i,s))->uA (x.2.toRec x.1) (y.2.toRec y.1)=true)->S k=decide (k<i):=by
   intro k s' hk hne hcl
   rcases Nat.lt_or_gt_of_ne hne with hlt|hgt
   ·have hbit:=B2 hfix hk hs hlt (hcl (k,s') (i,s) (.inl rfl) hlt (.inr rfl))
    have:=EH hedge hdownL i s.o k (by rw [bt];exact ho) hedges hbit
    rw [this];simp [hlt]
   ·have hbit:=B2 hfix hs hk hgt (hcl (i,s) (k,s') (.inr rfl) hgt (.inl rfl))
    cases hSk:S k with
    |false=>simp;omega
    |true=>
     have hok:=hops k s' hk
     have:=EH hedge hdownL k s'.o i (by rw [bt];exact hok) (hdownL k s'.o (by rw [bt];exact hok) hSk) hbit
     have h2:S i=false:=hSi
     rw [this] at h2;cases h2
  have hSi':S i=decide (i<i):=by rw [show S i=false from hSi];simp
  have hT: ∀(t k:Nat) (s':c9),l[k]? =some s'->s'.o.dst=some t->(t∈s.looks\/s.o.dst=some t)->S k=decide (k<i):=by
   intro t k s' hk hd ht
   by_cases hne:k=i
   ·subst hne;exact hSi'
   ·refine hclash k s' hk hne fun x y hx hlt hy=> ?_
    have hcase:(x=(k,s')/\y=(i,s))\/(x=(i,s)/\y=(k,s')):=by
     rcases hx with rfl|rfl<;>rcases hy with hy|hy
     ·exact absurd (congrArg Prod.fst hy) hne
     ·exact .inl ⟨rfl,hy⟩
     ·exact .inr ⟨hy,rfl⟩
     ·exact absurd (congrArg Prod.fst hy) hne
    rcases hcase with ⟨rfl,rfl⟩|⟨rfl,rfl⟩
    ·rcases ht with ht|ht
     ·have:s.looks.any (Nat.beq t)=true:=mN.2 ht
      simp [uA,c9.toRec,hd,this]
     ·simp [uA,c9.toRec,hd,ht]
    ·rcases ht with ht|ht
     ·have:s.looks.any (Nat.beq t)=true:=mN.2 ht
      simp [uA,c9.toRec,hd,this]
     ·simp [uA,c9.toRec,hd,ht]
  have hS': ∀(id k:Nat) (s':c9),l[k]? =some s'->id∈s'.writes->(id∈s.rd\/id∈s.writes)->S k=decide (k<i):=by
   intro id k s' hk hd ht
   by_cases hne:k=i
   ·subst hne;exact hSi'
   ·refine hclash k s' hk hne fun x y hx hlt hy=> ?_
    have hcase:(x=(k,s')/\y=(i,s))\/(x=(i,s)/\y=(k,s')):=by
     rcases hx with rfl|rfl<;>rcases hy with hy|hy
     ·exact absurd (congrArg Prod.fst hy) hne
     ·exact .inl ⟨rfl,hy⟩
     ·exact .inr ⟨hy,rfl⟩
     ·exact absurd (congrArg Prod.fst hy) hne
    rcases hcase with ⟨rfl,rfl⟩|⟨rfl,rfl⟩
    ·rcases ht with ht|ht
     ·have:zT s'.writes s.rd=true:=wT.2 ⟨id,hd,ht⟩
      simp [uA,c9.toRec,this]
     ·have:zT s'.writes s.writes=true:=wT.2 ⟨id,hd,ht⟩
      simp [uA,c9.toRec,this]
    ·rcases ht with ht|ht
     ·have:zT s.rd s'.writes=true:=wT.2 ⟨id,ht,hd⟩
      simp [uA,c9.toRec,this]
     ·have:zT s.writes s'.writes=true:=wT.2 ⟨id,ht,hd⟩
      simp [uA,c9.toRec,this]
  have hkw: ∀(k:Nat) (s':c9) (id:Nat),l[k]? =some s'->(pS s' id).isSome->id∈s'.writes:=by
   intro k s' id hk hp
   exact OC (DU hc 0 k s' hk).ok hp
  obtain ⟨ρ,T,h⟩:=hinv
  let S1:Nat->Bool:=fun k=>(listed.setIfInBounds i true).getD k false
  have hS1i:S1 i=true:=by
   show (listed.setIfInBounds i true).getD i false=true
   rw [bv,Array.getElem?_setIfInBounds_self_of_lt (by omega)];rfl
  have hS1: ∀k,k≠i->S1 k=S k:=by
   intro k hk
   show (listed.setIfInBounds i true).getD k false=listed.getD k false
   rw [bv,bv,ib (Ne.symm hk)]
  have hlts:=hat.scope hlt0
  refine WB hat.ok ho h ?_ ?_ ?_ (fu hB hat.lo) (hdst s (ef hs)) hlts (D':=stm.dirty) (A':=BP st0 l S1) (fun _ h=>h) hat.wr ?_ ?_ hF
  ·intro t ht
   rw [hattm]
   refine i1 _ _ _ _ (fun k s' hk hp=> ?_) rfl
   rw [bi]
   exact hT t k s' hk (LF.1 hp) (.inl ht)
  ·intro id hid
   rw [hatsf]
   refine i1 _ _ _ _ (fun k s' hk hp=> ?_) rfl
   rw [bi]
   exact hS' id k s' hk (hkw k s' id hk hp) (hid.imp (fun h=>h) fun h=>(FZ hat.ok.nxt).2 (.inl h))
  ·intro id h1 h2 h3
   rcases h3 with h3|⟨k,s',hk,hSk,h4,h5⟩
   ·have:=hat.lo;omega
   ·have hatk:=DU hc 0 k s' hk
    rcases Nat.lt_trichotomy k i with h6|h6|h6
    ·have:=hatk.after i s hs h6;omega
    ·subst h6
     have:S k=false:=hSi
     have hSk':S k=true:=hSk
     rw [this] at hSk';cases hSk'
    ·have:=hat.after k s' hk h6;omega
  ·intro id
   unfold BP
   constructor
   ·rintro (h1|⟨k,s',hk,hSk,h4⟩)
    ·exact .inl (.inl h1)
    ·by_cases hki:k=i
     ·subst hki
      rw [hs] at hk;cases hk
      exact .inr h4
     ·exact .inl (.inr ⟨k,s',hk,(hS1 k hki).symm.trans hSk,h4⟩)
   ·rintro ((h1|⟨k,s',hk,hSk,h4⟩)|h1)
    ·exact .inl h1
    ·have hki:k≠i:=by
      rintro rfl
      have:S k=false:=hSi
      have hSk':S k=true:=hSk
      rw [this] at hSk';cases hSk'
     exact .inr ⟨k,s',hk,(hS1 k hki).trans hSk,h4⟩
    ·exact .inr ⟨i,s,hs,hS1i,h1⟩
  ·intro a' w' ρ' T' h1
   refine ih (listed.setIfInBounds i true) a' w' (by simpa using hsz) ?_ ?_ ⟨ρ',T', ?_⟩
   ·have h2:listed.toList[i]? =some false:=by
     rw [bt]
     rw [bv,cl (by omega)] at hSi
     rw [cl (by omega)]
     simpa using hSi
    have:=JT _ _ h2
    rw [Array.toList_setIfInBounds]
    omega
   ·intro j o' hj hSj e he hb
    by_cases hji:j=i
    ·subst hji
     rw [ho] at hj;cases hj
     have:=hedges e he hb
     by_cases heq:e.on=j
     ·rw [heq];exact hS1i
     ·have h9:=hS1 e.on heq
      show S1 e.on=true
      rw [h9];exact this
    ·have h8:S j=true:=by rw [<- hS1 j hji];exact hSj
     have:=hdown j o' hj h8 e he hb
     by_cases heq:e.on=i
     ·rw [heq];exact hS1i
     ·show S1 e.on=true
      rw [hS1 e.on heq];exact this
   ·have e1:d6 pT S1 0 l (get st0.tmps)=upd (d6 pT S 0 l (get st0.tmps)) s.o.dst s.v:=by
     rw [UX]
     funext t
     refine H2 hs hS1 hS1i hSi fun hp k s' hk hlt hp'=> ?_
     have:=hT t k s' hk (LF.1 hp') (.inr (LF.1 hp))
     rw [this];simp;omega
    have e2:d6 pS S1 0 l (aO st0.store)=qN (d6 pS S 0 l (aO st0.store)) s.u:=by
     rw [LE]
     funext id
     refine H2 hs hS1 hS1i hSi fun hp k s' hk hlt hp'=> ?_
     have:=hS' id k s' hk (hkw k s' id hk hp') (.inr (hkw i s id hs hp))
     rw [this];simp;omega
    rw [e1,e2]
    exact h1
end
end Go.Se
namespace Go.Se
variable {P:Program}
theorem AR(ts:List Nat): ∀(l:mQ) (t:Nat),get (qW l ts) t=get l t\/get (qW l ts) t= .junk
 | [],t=> .inl rfl
 |(u,v)::l,t=>by
  simp only [qW]
  cases ts.any (Nat.beq u) with
  |true=>
   simp only [ar,get]
   cases Nat.beq u t with
   |true=>exact .inl rfl
   |false=>exact AR ts l t
  |false=>
   simp only [ap,get]
   cases Nat.beq u t with
   |true=>exact .inr rfl
   |false=>exact AR ts l t
theorem iL.drop {B:mW P} {tm:Nat->SV} {s:eD} {A:Nat->Prop} {Ds:List Nat} {nt:Nat} {a:Act} {w w':World} {ρ:aL} {T:Nat->Prop} {id l:Nat}
  (h:iL B tm (aO s) A Ds nt a w ρ T) (hid:(aO s id).isSome) (hl:ρ id=some l) (hp:Put l w w') (hD:B.w.heap.size<=l) (hT:T l):iL B tm (aO ((id,none)::s)) A Ds nt a w' ρ T:=by
 have hlook: ∀j,aO ((id,none)::s) j=if j=id then none else aO s j:=fun j=>by
  simp only [aO]
  by_cases hj:j=id
  ·subst hj;simp
  ·rw [if_neg hj,show Nat.beq id j=false by rw [cf];intro e;exact hj (ai e).symm];rfl
 have hsome: ∀j,(aO ((id,none)::s) j).isSome->j≠id/\(aO s j).isSome:=fun j hj=>by
  rw [hlook] at hj
  by_cases e:j=id
  ·rw [if_pos e] at hj;cases hj
  ·rw [if_neg e] at hj;exact ⟨e,hj⟩
 have hnone: ∀j,aO s j=none->aO ((id,none)::s) j=none:=fun j hj=>by
  rw [hlook]
  by_cases e:j=id
  ·rw [if_pos e]
  ·rw [if_neg e];exact hj
 exact {
  defers:=by
   obtain ⟨M,h1,h2,h3⟩:=h.defers
   refine ⟨M,h1,h2,fun D hM=> ?_⟩
   obtain ⟨k1,k2,k3⟩:=h3 D hM
   exact ⟨k1,k2,by rw [hp.same D (by rintro rfl;exact k2 hT)];exact k3⟩
  size:=h.size
  tmps:=fun t=>pK hp _ _ (h.tmps t)
  store:=fun j sb hj=>by
   obtain ⟨k1,k2⟩:=hsome j (by rw [hj];rfl)
   rw [hlook,if_neg k1] at hj
   obtain ⟨h1,b,h2,h3,h4⟩:=h.store j sb hj
   exact ⟨h1,b,h2,h3,EY hp (by rintro rfl;exact k1 (h.inj j id b k2 hid h2 hl)) h4⟩
  names:=fun j b hj=>by rw [hp.size];exact h.names j b hj
  inj:=fun i j b hi hj=>h.inj i j b (hsome i hi).2 (hsome j hj).2
  base:=h.base
  full:=h.full
  grow:=h.grow.trans (bG.turn hp) fun b hb e=>by omega
  old:=h.old
  tback:=h.tback
  tkeep:=fun b hb hT=>(h.tkeep b hb hT).imp (fun x=>x) fun ⟨q,q1,q2,q3,q4⟩=>⟨q,q1,q2,hnone q q3,q4⟩
  fresh:=fun j b h1 h2 h3=>(h.fresh j b (hsome j h1).2 h2 h3).imp (fun x=>x) fun ⟨q,q1,q2,q3,q4⟩=>⟨q,q1,q2,hnone q q3,q4⟩
  inv:=fun g v hg=>⟨(h.inv g v hg).1,hp.cell (h.inv g v hg).2⟩}
def aBH :Pd->Exit
 | .ready=> .normal
 | .busy=> .normal
 | .left .normal=> .normal
 | .left (.exit id)=> .exit id
 | .left .ret=> .ret
def ED(w:World)(fn:FuncId)(a:Act)(ps:Array Tmp)(assign body:Code):World:=
 (w.alloc (.deferred (some []))).alloc (.loop {state:= .ready,pending:=none,fn,tmps:=a.tmps,params:=ps,assign,body,defers:=w.heap.size})
theorem D6{w:World}{fn:FuncId}{a:Act}{ps:Array Tmp}{assign body:Code}:(ED w fn a ps assign body).heap.size=w.heap.size+2:=by
 simp [ED,World.size_alloc]
theorem H0{w:World}{fn:FuncId}{a:Act}{ps:Array Tmp}{assign body:Code}{b:Nat}(h:b<w.heap.size):(ED w fn a ps assign body).heap[b]? =w.heap[b]? :=by
 show ((w.heap.push _).push _)[b]? =_
 rw [Array.getElem?_push_lt (by simp;omega),Array.getElem_push_lt (by omega),cl h]
theorem Z8{w:World}{fn:FuncId}{a:Act}{ps:Array Tmp}{assign body:Code}:(ED w fn a ps assign body).heap[w.heap.size]? =some (.deferred (some [])):=by
 show ((w.heap.push _).push _)[w.heap.size]? =_
 rw [Array.getElem?_push_lt (by simp),Array.getElem_push_eq]
theorem YH{w:World}{fn:FuncId}{a:Act}{ps:Array Tmp}{assign body:Code}:(ED w fn a ps assign body).heap[w.heap.size+1]? =some (.loop {state:= .ready,pending:=none,fn,tmps:=a.tmps,params:=ps,assign,body,defers:=w.heap.size}):=by
 show ((w.heap.push _).push _)[w.heap.size+1]? =_
 have:(w.heap.push (Obj.deferred (some []))).size=w.heap.size+1:=by simp
 rw [<- this,Array.getElem?_push_size]
theorem DZ{w:World}{fn:FuncId}{a:Act}{ps:Array Tmp}{assign body:Code}(T:Nat->Prop):bG T w (ED w fn a ps assign body) where
 size:=by rw [D6];omega
 same:=fun b hb _=>H0 hb
 shape:=fun b vs e f hb=>⟨vs,f,by rw [H0 (bk.1 hb).1];exact hb,rfl⟩
 os:=rfl
 output:=rfl
 tape:=rfl
theorem aEV {env:Env} (he:rA P env) {g:Operand} {ps:Array Tmp} {assign body:Code} {st:St} {k:FuncId} {first cap:List SV} {ts:List Nat} (hg:eval st.tmps g= .fn (.func k) first cap)
  (hft:MR env k=false) {K:KV}
  (h:HT env {st with store:=(st.nxt,some (.loop (qW st.tmps ts) st.nt ps.toList assign body .ready))::st.store,nxt:=st.nxt+1} k (first++[.yld st.nxt]++cap) K):
  ∃v u n rd wr,K v u n rd wr/\ ∀(F:Fence) (m:Nat),Wd F->F.round=none-> ∀(B:mW P) (a:Act) (w:World),Now B st a w-> ∀(tm':mQ) (nt':Nat) (ps':List Nat) (as' bd':Code) (pend:Pd),
   aO (u++(st.nxt,some (.loop (qW st.tmps ts) st.nt ps.toList assign body .ready))::st.store) st.nxt=some (.loop tm' nt' ps' as' bd' pend)->pend≠ .busy-> ∀Q:Exit->Act->World->Prop,
   (∀a' w',Now B ⟨st.tmps,(st.nxt,none)::(u++(st.nxt,some (.loop (qW st.tmps ts) st.nt ps.toList assign body .ready))::st.store),n,kT st.dirty wr,st.nt⟩ a' w'->Q (aBH pend) a' w')->
   (Code.rangeFunc g ps assign body).wpIn F m P Q a w:=by
 generalize hs1:({st with store:=(st.nxt,some (.loop (qW st.tmps ts) st.nt ps.toList assign body .ready))::st.store,nxt:=st.nxt+1}:St)=s1 at h
 have e_nxt:s1.nxt=st.nxt+1:=by rw [<- hs1]
 have e_store:s1.store=(st.nxt,some (.loop (qW st.tmps ts) st.nt ps.toList assign body .ready))::st.store:=by rw [<- hs1]
 unfold HT at h
 generalize hxs:first++[.yld st.nxt]++cap=xs at h
 simp only at h
 generalize hF:iZ s1.store 200 (ids.idsL xs) []=R at h
 obtain ⟨v,σ',d,hK,hok⟩:=he.callee _ _ _ _ h
 obtain ⟨q1,q2,q3,q4,q5⟩:=DW (P:=P) (st:=s1) (v:=v) (σ':=σ') (d:=d) hF
 refine ⟨_,_,_,_,_,hK,fun F m hFw hro B a w hn tm' nt' ps' as' bd' pend hlk hpb Q hQ=> ?_⟩
 obtain ⟨hB,ρ,T,hh⟩:=hn
 refine wpIn_rangeFunc fun fnid _=> ?_
 have hgv: ∃a1 a2,a.eval g= .func (.func k) a1 a2/\aX ρ T w first a1.toList/\aX ρ T w cap a2.toList:=by
  have:rel ρ T w (eval st.tmps g) (a.eval g):=by
   refine P4 fun t ht=> ?_
   subst ht
   exact hh.tmps t
  rw [hg] at this
  exact this
 obtain ⟨a1,a2,hge,hr1,hr2⟩:=hgv
 let l:=w.heap.size+1
 let w1:=ED w fnid a ps assign body
 let ρ1:aL:=fun id=>if id=st.nxt then some l else ρ id
 let T1:Nat->Prop:=fun c=>(T c/\c<w.heap.size)\/c=l
 have hnone:ρ st.nxt=none:=by
  cases hρ:ρ st.nxt with
  |none=>rfl
  |some b=>exact absurd (hh.names _ _ hρ).1 (gy _)
 have hρ1: ∀id b,ρ id=some b->ρ1 id=some b:=fun id b hid=>by
  show (if _ then _ else _)=_
  rw [if_neg];·exact hid
  rintro rfl;rw [hnone] at hid;cases hid
 have hG:bG T w w1:=DZ T
 have hT1: ∀b,b<w.heap.size->T1 b->T b:=fun b hb ht=>by
  rcases ht with ht|ht
  ·exact ht.1
  ·have:b=w.heap.size+1:=ht;omega
 have hmono: ∀(x:SV) (y:Value),rel ρ T w x y->rel ρ1 T1 w1 x y:=iW hρ1 hT1 hG
 have hdone:gX ρ T w st.nxt (st.nxt+1) (.tup []) [(st.nxt,some (.loop (qW st.tmps ts) st.nt ps.toList assign body .ready))] [] ρ1 T1 w1 (.tuple #[]):={
  names:=hρ1
  only:=fun id b hid=>by
   by_cases e:id=st.nxt
   ·exact .inr (by omega)
   ·exact .inl (by have:(if id=st.nxt then some l else ρ id)=some b:=hid;rw [if_neg e] at this;exact this)
  val:=⟨#[],rfl,rfl⟩
  turned:=fun id sb hid=>by
   simp only [aq,bn,an] at hid
   obtain ⟨rfl,rfl⟩:=hid
   refine ⟨l,if_pos rfl,.inr rfl,_,YH,⟨rfl,rfl⟩,rfl,rfl,rfl,hh.size,fun t=> ?_⟩
   rcases AR ts st.tmps t with e|e
   ·rw [e];exact hmono _ _ (hh.tmps t)
   ·rw [e];exact trivial
  keys:=fun id o hid=>by
   simp only [aq,bn] at hid
   exact .inr (by omega)
  cover:=fun id hid=>by cases hid
  fresh:=fun id b h1 h2 h3=>by
   have e:id=st.nxt:=by omega
   subst e
   have:(some l:Option Nat)=some b:=by rw [<- h3];exact (if_pos rfl).symm
   cases this
   exact .inl (by show w.heap.size<=w.heap.size+1;omega)
  inj:=fun i j b h1 h2 h3 h4 _ _=>by omega
  grow:=(DZ (fun _=>False)).mono fun _ _ h=>h.elim
  tback:=hT1
  below:=fun id b h1 h2 h3=>by
   have e:id=st.nxt:=by omega
   subst e
   have:(some l:Option Nat)=some b:=by rw [<- h3];exact (if_pos rfl).symm
   cases this
   rw [D6];show w.heap.size+1<_;omega
  tkeep:=fun b hb hT=> .inl (.inl ⟨hT,hb⟩)}
 have hA:iL B (get st.tmps) (aO s1.store) (fun id=>id<s1.nxt) st.dirty st.nt a w1 ρ1 T1:=by
  have:=hh.done (dst:=none) (D':=st.dirty) (A':=fun id=>id<s1.nxt) hdone (fun _ h=>by cases h) hB (fun id h1 _ h2=>by omega) (fun _ h=>by cases h)
   (fun id x y hx hy=>by
    simp only [aq,bn] at hx hy
    rw [hx.2,hy.2]) (fun _ h=>h) (fun _ h=>by cases h) (fun id=>by rw [e_nxt];show id<st.nxt+1↔id<st.nxt\/(st.nxt<=id/\id<st.nxt+1);omega)
  have e1:qN (aO st.store) [(st.nxt,some (.loop (qW st.tmps ts) st.nt ps.toList assign body .ready))]=aO s1.store:=by
   funext id
   rw [e_store,<- A1];rfl
  rw [e1] at this
  exact this
 let a':Act:={a with defers:={target:= .collected w.heap.size,args:= #[]}::a.defers}
 have hA':iL B (get st.tmps) (aO s1.store) (fun id=>id<s1.nxt) st.dirty st.nt a' w1 ρ1 T1:={
  hA with
  defers:=by
   obtain ⟨M,h1,h2,h3⟩:=hA.defers
   have hlt: ∀D∈M,D<w.heap.size:=fun D hD=>by
    obtain ⟨M0,g1,g2,g3⟩:=hh.defers
    have hM:M=M0:=by
     have:=h1.symm.trans g1
     have hinj:=congrArg (List.map fun d:Deferred=>match d.target with| .collected D=>D|_=>0) this
     simpa [Function.comp_def] using hinj
    subst hM
    obtain ⟨_,_,k3⟩:=g3 D hD
    exact (bk.1 k3).1
   refine ⟨w.heap.size::M,by show _::a.defers=_;rw [h1];rfl,List.nodup_cons.2 ⟨fun hm=>gy _ (hlt _ hm),h2⟩,fun D hD=> ?_⟩
   rcases cb.1 hD with rfl|hD
   ·refine ⟨hh.grow.size,fun ht=> ?_,Z8⟩
    rcases ht with ht|ht
    ·exact gy _ ht.2
    ·have:w.heap.size=w.heap.size+1:=ht;omega
   ·exact h3 D hD
  size:=hA.size}
 have hlow:Low P ρ1 T1 w1:=⟨fun id b hid=>(hA.names id b hid).2,hA.inv⟩
 obtain ⟨p1,p2,p3,p4,p5⟩:=q5 ρ1 T1 w1
  (fun id hid=>by
   obtain ⟨sb,hsb⟩:=q2 id hid
   obtain ⟨_,b,h2,h3,h4⟩:=hA.store id sb hsb
   exact ⟨sb,b,hsb,h2,h3,h4⟩)
  (fun i j b hi hj h1 h2=>by
   obtain ⟨si,hsi⟩:=q2 i hi
   obtain ⟨sj,hsj⟩:=q2 j hj
   exact hA.inj i j b (by rw [hsi];rfl) (by rw [hsj];rfl) h1 h2)
  hlow
  (fun id h1 _=>by
   cases hρ:ρ1 id with
   |none=>rfl
   |some b=>exact absurd (hA.names id b hρ).1 (by omega))
 have hargs:aX ρ1 T1 w1 xs (a1++ #[Value.func (.yield l) #[] #[]]++a2).toList:=by
  rw [<- hxs,fd,fd]
  have lmono: ∀(x:List SV) (y:List Value),aX ρ T w x y->aX ρ1 T1 w1 x y:=bB hρ1 hT1 hG
  refine gN (gN (lmono _ _ hr1) ?_) (lmono _ _ hr2)
  exact ⟨_,[],rfl,⟨l,if_pos rfl,rfl⟩,rfl⟩
 have hruns:=hok (fun p=>(R[p]?).bind ρ1) T1 w1 (a1++ #[Value.func (.yield l) #[] #[]]++a2) (kW p1 _ _ hargs) p2 p3 p4
 unfold MR at hft
 cases hfk:env.ft k with
 |none=>rw [hfk] at hft;cases hft
 |some fn0=>
 rw [hfk] at hft
 obtain ⟨hfn0,hname0⟩:=he.ft k fn0 hfk
 have hcf: ∀vals:Array Value,(callFunc k vals).run P w1= .ok (.enter k vals) w1:=fun vals=>by
  simp only [callFunc,Sem.run_bind,run_program,Result.andThen_ok,hfn0,hname0,bz,ea,show fn0.body.isNone=false from hft,Sem.run_pure]
 have hcalls:Calls P k (a1++ #[Value.func (.yield l) #[] #[]]++a2) w1 fun e w'=> ∃x,e= .returned x/\ ∃ρ' T',kJ (fun p=>(R[p]?).bind ρ1) T1 w1 (R.map fun i=>(aO s1.store i).map (mB fun i=>idx R i 0)) v σ' d ρ' T' w' x:=by
  rcases hruns with ⟨fn,hfn,hbody,hname,hc⟩|⟨x,w',hrun,hR⟩
  ·exact hc
  ·rw [hcf] at hrun;cases hrun
 refine ⟨l,[{target:= .collected w.heap.size,args:= #[]}],w1,{target:= .fn (.func k) a2,args:=a1++ #[Value.func (.yield l) #[] #[]]},w1,k,a1++ #[Value.func (.yield l) #[] #[]]++a2,w1, ?_, ?_,fun f' _=>hFw.fn f', ?_,fun hd=>(by rw [hFw.depth] at hd;cases hd),hFw.calls (hcalls.mono fun e w3 he3=> ?_)⟩
 ·rw [hro];exact run_enterLoop_outer fnid a.tmps ps assign body
 ·have hm: #[Operand.const (Value.func (.yield l) #[] #[])].map a.eval= #[Value.func (.yield l) #[] #[]]:=by simp [Act.eval]
  simp only [resolve,hge,Deferred.ofValue,hm];rfl
 ·exact hcf _
 obtain ⟨x,rfl,hx⟩:=he3
 obtain ⟨ρ2,T2,hd2⟩:=p5 x w3 hx
 have hB1:B.n<=s1.nxt:=by omega
 have hH:=hA'.done (dst:=none) (D':=kT st.dirty (d.filterMap fun p=>R[p]?)) (A':=fun id=>id<s1.nxt+(σ'.length - R.length)) hd2 (fun _ h=>by cases h) hB1 (fun id h1 _ h2=>by omega)
  (fun id hid=>by obtain ⟨sb,hsb⟩:=q2 id (.inr hid);rw [hsb];rfl) (q3 fun id sb hsb=>(hA.store id sb hsb).1)
  (fun p hp=>(fY _ _ _).2 (.inl hp)) (fun p hp=>(fY _ _ _).2 (.inr hp)) (fun id=>by show id<s1.nxt+_↔id<s1.nxt\/(s1.nxt<=id/\id<s1.nxt+_);omega)
 have e2:qN (aO s1.store) (eP (iV R s1.nxt) R s1.nxt d 0 σ')=aO (eP (iV R s1.nxt) R s1.nxt d 0 σ'++s1.store):=by
  funext id;rw [A1]
 rw [e2] at hH
 rw [<- e_store] at hlk hQ
 have hl2:ρ2 st.nxt=some l:=hd2.names _ _ (if_pos rfl)
 obtain ⟨_,b,hb1,hb2,r,hb3,hb4,_⟩:=hH.store st.nxt _ hlk
 rw [hl2] at hb1;cases hb1
 have hbusy:r.state≠ .busy:=fun e=>by
  rw [e] at hb4
  rcases pend with _|_|(_|_|_)
  ·exact absurd hb4.1 (by decide)
  ·exact hpb rfl
  ·exact hb4
  ·exact absurd hb4.1 (by decide)
  ·exact absurd hb4.1 (by decide)
 refine ⟨r.pending,_,run_endLoop hb3 hbusy, ?_⟩
 have hput:=pZ (o':= .loop {r with state:= .exhausted}) hb3 (fun _ _ _ e=>by cases e)
 have hN:=hH.drop (by rw [hlk];rfl) hl2 hput (fu hh.grow.size (Nat.le_succ _)) hb2
 have hNow:Now B ⟨st.tmps,(st.nxt,none)::(eP (iV R s1.nxt) R s1.nxt d 0 σ'++s1.store),s1.nxt+(σ'.length - R.length),kT st.dirty (d.filterMap fun p=>R[p]?),st.nt⟩ a' (w3.putObj l (.loop {r with state:= .exhausted})):=
  ⟨fu hB1 (Nat.le_add_right _ _),ρ2,T2,hN⟩
 have hfin:=hQ a' _ hNow
 rcases pend with _|_|(_|id|_)
 ·have hp:r.pending=none:=hb4.2
  rw [hp] at hfin|-;exact hfin
 ·exact absurd rfl hpb
 ·exact hb4.elim
 ·have hp:r.pending=some (.exit id):=hb4.2
  rw [hp] at hfin|-;exact wpIn_exit hfin
 ·have hp:r.pending=some .ret:=hb4.2
  rw [hp] at hfin|-;exact wpIn_ret hfin
theorem iL.turnRec {B:mW P} {tm:Nat->SV} {s:eD} {A:Nat->Prop} {Ds Ds':List Nat} {nt:Nat} {a:Act} {w w':World} {ρ:aL} {T:Nat->Prop} {id l:Nat} {sb:SB}
  (h:iL B tm (aO s) A Ds nt a w ρ T) (hid:(aO s id).isSome) (hl:ρ id=some l) (hp:Put l w w') (hT:T l) (hsb:fV ρ T w' sb l) (hn:id<B.n) (hD: ∀p,p∈Ds->p∈Ds') (hDi:id∈Ds'):
  iL B tm (aO ((id,some sb)::s)) A Ds' nt a w' ρ T:=by
 have hlook: ∀j,aO ((id,some sb)::s) j=if j=id then some sb else aO s j:=fun j=>by
  simp only [aO]
  by_cases hj:j=id
  ·subst hj;simp
  ·rw [if_neg hj,show Nat.beq id j=false by rw [cf];intro e;exact hj (ai e).symm];rfl
 have hsome: ∀j,(aO ((id,some sb)::s) j).isSome->(aO s j).isSome:=fun j hj=>by
  rw [hlook] at hj
  by_cases e:j=id
  ·rw [e];exact hid
  ·rw [if_neg e] at hj;exact hj
 have hnone: ∀j,aO s j=none->aO ((id,some sb)::s) j=none:=fun j hj=>by
  rw [hlook]
  by_cases e:j=id
  ·subst e;rw [hj] at hid;cases hid
  ·rw [if_neg e];exact hj
 have hbase:B.ρ id=some l:=by
  obtain ⟨b,hb⟩:=h.full id hn
  have:=(h.old id b hb).2
  rw [hl] at this;cases this
  exact hb
 exact {
  defers:=by
   obtain ⟨M,h1,h2,h3⟩:=h.defers
   refine ⟨M,h1,h2,fun D hM=> ?_⟩
   obtain ⟨k1,k2,k3⟩:=h3 D hM
   exact ⟨k1,k2,by rw [hp.same D (by rintro rfl;exact k2 hT)];exact k3⟩
  size:=h.size
  tmps:=fun t=>pK hp _ _ (h.tmps t)
  store:=fun j sb' hj=>by
   rw [hlook] at hj
   by_cases e:j=id
   ·rw [if_pos e] at hj
    cases hj
    subst e
    obtain ⟨sb0,hsb0⟩:=db.1 hid
    exact ⟨(h.store _ sb0 hsb0).1,l,hl,hT,hsb⟩
   ·rw [if_neg e] at hj
    obtain ⟨h1,b,h2,h3,h4⟩:=h.store j sb' hj
    exact ⟨h1,b,h2,h3,EY hp (by rintro rfl;exact e (h.inj j id b (by rw [hj];rfl) hid h2 hl)) h4⟩
  names:=fun j b hj=>by rw [hp.size];exact h.names j b hj
  inj:=fun i j b hi hj=>h.inj i j b (hsome i hi) (hsome j hj)
  base:=h.base
  full:=h.full
  grow:=(h.grow.mono fun b _ ⟨p,h1,h2⟩=>⟨p,hD p h1,h2⟩).trans (bG.turn hp) fun b _ e=>⟨id,hDi,hn,by rw [e];exact hbase⟩
  old:=h.old
  tback:=h.tback
  tkeep:=fun b hb hT=>(h.tkeep b hb hT).imp (fun x=>x) fun ⟨q,q1,q2,q3,q4⟩=>⟨q,hD q q1,q2,hnone q q3,q4⟩
  fresh:=fun j b h1 h2 h3=>(h.fresh j b (hsome j h1) h2 h3).imp (fun x=>x) fun ⟨q,q1,q2,q3,q4⟩=>⟨q,hD q q1,q2,hnone q q3,q4⟩
  inv:=fun g v hg=>⟨(h.inv g v hg).1,hp.cell (h.inv g v hg).2⟩}
def O7 :List Nat->List SV->(Nat->SV)->Nat->SV
 |p::ps,x::xs,f=>O7 ps xs fun t=>if t=p then x else f t
 |_,_,f=>f
theorem VX : ∀(ps:List Nat) (xs:List SV) (f g:Nat->SV) (t:Nat),f t=g t->O7 ps xs f t=O7 ps xs g t
 | [],_,_,_,_,h=>h
 |_::_,[],_,_,_,h=>h
 |p::ps,x::xs,f,g,t,h=>VX ps xs _ _ t (by by_cases e:t=p;rw [if_pos e,if_pos e];rw [if_neg e,if_neg e];exact h)
theorem PV : ∀(ps:List Nat) (xs:List SV) (f:Nat->SV) (t:Nat),t∉ps->O7 ps xs f t=f t
 | [],_,_,_,_=>rfl
 |_::_,[],_,_,_=>rfl
 |p::ps,x::xs,f,t,h=>by
  show O7 ps xs _ t=_
  rw [PV ps xs _ t (fun hm=>h (bm _ hm)),if_neg (fun e=>h (by rw [e];exact bq ..))]
theorem N9{nt:Nat}: ∀(ps:List Nat) (xs:List SV) (tm:mQ) (t:Nat),tK nt ps=true->get (aEp ps xs++tm) t=O7 ps xs (get tm) t
 | [],_,_,_,_=>rfl
 |_::_,[],_,_,_=>rfl
 |p::ps,x::xs,tm,t,h=>by
  simp only [tK,af,dg] at h
  obtain ⟨_,h2,h3⟩:=h
  show get ((p,x)::(aEp ps xs++tm)) t=O7 ps xs _ t
  simp only [get]
  cases hb:Nat.beq p t with
  |true=>
   obtain rfl:=ai hb
   have hm:p∉ps:=fun hm=>by rw [mN.2 hm] at h2;cases h2
   rw [PV ps xs _ p hm,if_pos rfl];rfl
  |false=>
   have hne:t≠p:=by rintro rfl;rw [fb] at hb;cases hb
   simp only [ap]
   rw [N9 ps xs tm t h3]
   exact VX ps xs _ _ t (by rw [if_neg hne])
theorem XG{ρ:aL}{T:Nat->Prop}{w:World}{nt:Nat}: ∀(ps:List Nat) (xs:List SV) (vals:List Value) (f:Nat->SV) (base:Array Value),tK nt ps=true->base.size=nt->ps.length=xs.length->aX ρ T w xs vals->
  (∀t,rel ρ T w (f t) (base.getD t undef))->(((ps.zip vals).foldl (fun tmps (t,a)=>tmps.setIfInBounds t a) base).size=nt/\ ∀t,rel ρ T w (O7 ps xs f t) (((ps.zip vals).foldl (fun tmps (t,a)=>tmps.setIfInBounds t a) base).getD t undef))
 | [],xs,vals,f,base,_,hs,hl,hv,hb=>by
  cases xs with
  |nil=>exact ⟨hs,hb⟩
  |cons _ _=>cases hl
 |p::ps,[],_,_,_,_,_,hl,_,_=>by cases hl
 |p::ps,x::xs,vals,f,base,hg,hs,hl,hv,hb=>by
  obtain ⟨v,r,rfl,h1,h2⟩:=hv
  simp only [tK,af,dg] at hg
  obtain ⟨g1,_,g3⟩:=hg
  have g1:p<nt:=by simpa using g1
  refine XG ps xs r (fun t=>if t=p then x else f t) (base.setIfInBounds p v) g3 (by simpa using hs) (by simpa using hl) h2 fun t=> ?_
  simp only [bv]
  by_cases e:t=p
  ·subst e
   rw [if_pos rfl,Array.getElem?_setIfInBounds_self_of_lt (by omega)]
   exact h1
  ·rw [if_neg e,ib (Ne.symm e)]
   have:=hb t
   rwa [bv] at this
end Go.Se
namespace Go.Se
variable {P:Program}
theorem ZI{B:mW P}{st:St}{a:Act}{w:World}(h:Now B st a w):Now B st a {w with drawn:=w.drawn+1}:=by
 obtain ⟨hB,ρ,T,h⟩:=h
 have hG:bG (fun _=>False) w {w with drawn:=w.drawn+1}:=⟨av _,fun _ _ _=>rfl,fun b vs e f hb=>⟨vs,f,hb,rfl⟩,rfl,rfl,rfl⟩
 have hGT:bG T w {w with drawn:=w.drawn+1}:=hG.mono fun _ _ h=>h.elim
 refine ⟨hB,ρ,T,{h with
  tmps:=fun t=>iW (fun _ _ h=>h) (fun _ _ h=>h) hGT _ _ (h.tmps t)
  store:=fun id sb hid=>by
   obtain ⟨h1,b,h2,h3,h4⟩:=h.store id sb hid
   exact ⟨h1,b,h2,h3,rT (fun _ _ h=>h) (fun _ _ h=>h) hGT rfl h4⟩
  names:=h.names
  grow:=h.grow.trans hG fun _ _ h=>h.elim}⟩
theorem aKr{B:mW P}{st:St}{a:Act}{w:World}(h:Now B st a w): ∀id sb,aO st.store id=some sb->id<st.nxt:=by
 obtain ⟨_,ρ,T,h⟩:=h
 exact fun id sb hid=>(h.store id sb hid).1
theorem PJ{B:mW P}{st st':St}{a:Act}{w:World}(hs:KQ st st')(h:Now B st a w):Now B st' a w:=by
 obtain ⟨hB,ρ,T,h⟩:=h
 have ht:get st.tmps=get st'.tmps:=funext hs.tmps
 rw [ht,hs.store,hs.nxt,hs.dirty,hs.nt] at h
 exact ⟨by rw [<- hs.nxt];exact hB,ρ,T,h⟩
theorem BX{nt:Nat}{l:List c9}{ops:List Oper}(hl:l.map (·.o)=ops)(h:EE nt ops=true): ∀s∈l,∀d,s.o.dst=some d->d<nt:=by
 intro s hs d hd
 unfold EE at h
 rw [gb] at h
 have:=h s.o (by rw [<- hl];exact fa.2 ⟨s,hs,rfl⟩)
 rw [hd] at this
 simpa using this
theorem J4 {env:Env} (he:rA P env) (hmix:P.follows .mixedOrders=true) {id:Nat} {ops:Array Oper} {draw:Bool} {st:St} {K:St->Prop}
  (hdst:EE st.nt ops.toList=true)
  (h:bif draw then (bif pH 0 ops.toList then nN env ops.toList ops.toList 0 st [] fun s tr=>If (lR (k9 ops.toList []) tr) (K s) else False)
   else nN env ops.toList ops.toList 0 st [] fun s _=>K s):
  ∃st',K st'/\ ∀(B:mW P) (a:Act) (w:World),Now B st a w-> ∀(F:Fence) (n:Nat),Wd F-> ∀Q:Exit->Act->World->Prop,(∀a' w',Now B st' a' w'->Q .normal a' w')->(Code.region id ops draw).wpIn F n P Q a w:=by
 cases draw with
 |false=>
  simp only [ap] at h
  obtain ⟨l,st',hc,hl,hK⟩:=nM he _ _ _ _ h
  refine ⟨st',hK,fun B a w hn F n hF Q hQ=> ?_⟩
  refine wpIn_region ?_
  have:=TQ (n:=n) hF hc 0 a w (fun j=>by rw [hl,bi,bt]) hn (BX hl hdst) hQ
  have hlen:l.length=ops.size:=by have:=congrArg List.length hl;simpa using this
  rw [hlen,<- List.range_eq_range'] at this
  exact this
 |true=>
  simp only [ar] at h
  cases hedge:pH 0 ops.toList with
  |false=>rw [hedge] at h;exact h.elim
  |true=>
   rw [hedge] at h
   simp only [ar] at h
   obtain ⟨l,st',hc,hl,hK⟩:=nM he _ _ _ _ h
   obtain ⟨hfix,hK⟩:=If.elim hK
   rw [cm] at hfix
   have hlen:l.length=ops.size:=by have:=congrArg List.length hl;simpa using this
   refine ⟨st',hK,fun B a w hn F n hF Q hQ=> ?_⟩
   refine wpIn_region_any hmix ?_
   have hn':=ZI hn
   obtain ⟨hB,ρ,T,hh⟩:=hn'
   refine Y4 hc hl hfix hedge (BX hl hdst) hQ hB (aKr hn) hF ops.size _ a _ (by simp) ?_ ?_ ⟨ρ,T, ?_⟩
   ·simp
   ·intro j o _ hj
    exfalso
    rw [bv] at hj
    by_cases hlt:j<ops.size
    ·simp [hlt] at hj
    ·simp [hlt] at hj
   ·have hno: ∀k,(Array.replicate ops.size false).getD k false=false:=by
     intro k
     rw [bv]
     by_cases hlt:k<ops.size<;>simp [hlt]
    have hends:=yK hc 0
    rw [qI _ _ _ _ _ (fun k _=>hno k),qI _ _ _ _ _ (fun k _=>hno k)]
    have hg:BP st l (fun k=>(Array.replicate ops.size false).getD k false)=fun id=>id<st.nxt:=by
     funext id
     apply propext
     unfold BP
     constructor
     ·rintro (h|⟨k,s,_,h2,_⟩)
      ·exact h
      ·simp only [hno] at h2;cases h2
     ·exact fun h=> .inl h
    rw [hg]
    exact {hh with
     grow:=hh.grow.mono fun b _ ⟨p,h1,h2⟩=>⟨p,hends.dirty p h1,h2⟩
     tkeep:=fun b hb hT=>(hh.tkeep b hb hT).imp (fun h=>h) fun ⟨q,h1,h2⟩=>⟨q,hends.dirty q h1,h2⟩
     fresh:=fun id b h1 h2 h3=>(hh.fresh id b h1 h2 h3).imp (fun h=>h) fun ⟨q,h4,h5⟩=>⟨q,hends.dirty q h4,h5⟩}
def aAP :Ex->Exit
 | .normal=> .normal
 | .exit id=> .exit id
 | .ret=> .ret
def vG(P:Program)(n0:Nat)(W:Nat->St->Option St):Prop:= ∀blk st st',W blk st=some st'-> ∀(B:mW P) (a:Act) (w:World),B.n=n0->Now B st a w->Now B st' a w
def aHr(P:Program)(rnd:Bool)(n0:Nat)(c:Code)(st:St)(x:Ex)(st':St):Prop:=
 ∀(F:Fence) (m:Nat),Wd F->(rnd=false->F.round=none)-> ∀(B:mW P) (a:Act) (w:World),B.n=n0->Now B st a w->c.wpIn F m P (fun e a' w'=>e=aAP x/\Now B st' a' w') a w
theorem W7 {rnd:Bool} {n0:Nat} {c:Code} {E:(Ex->St->Prop)->St->Prop}
  (hE: ∀(K:Ex->St->Prop) (st:St),E K st-> ∃x st',K x st'/\aHr P rnd n0 c st x st') {K:Ex->St->Prop}:
  ∀(n:Nat) (st:St),iter E K n st-> ∃x st',x≠ .normal/\K x st'/\
   ∀(F:Fence) (m:Nat),Wd F->(rnd=false->F.round=none)-> ∀(B:mW P) (a:Act) (w:World),B.n=n0->Now B st a w->Code.roundsIn F m P c (fun e a' w'=>e=aAP x/\Now B st' a' w') n a w
 |0,st,h=>h.elim
 |n+1,st,h=>by
  obtain ⟨x,st',hx,hgo⟩:=hE _ st h
  cases x with
  |normal=>
   obtain ⟨y,st2,h1,h2,h3⟩:=W7 hE n st' hx
   refine ⟨y,st2,h1,h2,fun F m hF hr B a w hB hn=> ?_⟩
   rw [roundsIn_succ]
   refine wpIn_mono (hgo F m hF hr B a w hB hn) ?_
   rintro e a' w' ⟨rfl,hn'⟩
   exact h3 F m hF hr B a' w' hB hn'
  |exit id=>
   refine ⟨.exit id,st',by simp,hx,fun F m hF hr B a w hB hn=> ?_⟩
   rw [roundsIn_succ]
   refine wpIn_mono (hgo F m hF hr B a w hB hn) ?_
   rintro e a' w' ⟨rfl,hn'⟩
   exact ⟨rfl,hn'⟩
  |ret=>
   refine ⟨.ret,st',by simp,hx,fun F m hF hr B a w hB hn=> ?_⟩
   rw [roundsIn_succ]
   refine wpIn_mono (hgo F m hF hr B a w hB hn) ?_
   rintro e a' w' ⟨rfl,hn'⟩
   exact ⟨rfl,hn'⟩
theorem MC{f:St->Option St}{K:St->Prop}{s:St}(h:wk f K s): ∃s',f s=some s'/\K s':=by
 unfold wk at h
 split at h
 ·rename_i s' hs;exact ⟨s',hs,h⟩
 ·exact h.elim
theorem fI{env:Env}(he:rA P env)(hmix:P.follows .mixedOrders=true){W:Nat->St->Option St}{n0:Nat}(hW:vG P n0 W):
  ∀(c:Code) (blk:Nat) (K:Ex->St->Prop) (st:St),fA env W blk c K st-> ∃x st',K x st'/\aHr P env.rnd n0 c st x st'
 | .skip,blk,K,st,h=>⟨.normal,st,h,fun F m hF hr B a w hB hn=>wpIn_skip ⟨rfl,hn⟩⟩
 | .seq c d,blk,K,st,h=>by
  obtain ⟨x,st1,hx,hgo⟩:=fI he hmix hW c blk _ st h
  cases x with
  |normal=>
   obtain ⟨y,st2,hy,hgo2⟩:=fI he hmix hW d blk K st1 hx
   refine ⟨y,st2,hy,fun F m hF hr B a w hB hn=>wpIn_seq (wpIn_mono (hgo F m hF hr B a w hB hn) ?_)⟩
   rintro e a' w' ⟨rfl,hn'⟩
   exact hgo2 F m hF hr B a' w' hB hn'
  |exit id=>
   refine ⟨.exit id,st1,hx,fun F m hF hr B a w hB hn=>wpIn_seq (wpIn_mono (hgo F m hF hr B a w hB hn) ?_)⟩
   rintro e a' w' ⟨rfl,hn'⟩
   exact ⟨rfl,hn'⟩
  |ret=>
   refine ⟨.ret,st1,hx,fun F m hF hr B a w hB hn=>wpIn_seq (wpIn_mono (hgo F m hF hr B a w hB hn) ?_)⟩
   rintro e a' w' ⟨rfl,hn'⟩
   exact ⟨rfl,hn'⟩
 | .cond o c d,blk,K,st,h=>by
  simp only [fA] at h
  split at h
  ·rename_i t
   split at h
   ·rename_i b hb
    have hv: ∀(B:mW P) (a:Act) (w:World),Now B st a w->a.eval (.tmp t)= .bool b:=by
     rintro B a w ⟨_,ρ,T,hh⟩
     have:=hh.tmps t
     rw [hb] at this
     exact this
    rcases Br.elim h with ⟨rfl,h⟩|⟨rfl,h⟩
    ·obtain ⟨x,st',hx,hgo⟩:=fI he hmix hW c blk K _ h
     exact ⟨x,st',hx,fun F m hF hr B a w hB hn=>wpIn_cond_true (hv B a w hn) (hgo F m hF hr B a w hB (PJ (lV hb) hn))⟩
    ·obtain ⟨x,st',hx,hgo⟩:=fI he hmix hW d blk K _ h
     exact ⟨x,st',hx,fun F m hF hr B a w hB hn=>wpIn_cond_false (hv B a w hn) (hgo F m hF hr B a w hB (PJ (lV hb) hn))⟩
   ·exact h.elim
  ·obtain ⟨x,st',hx,hgo⟩:=fI he hmix hW c blk K _ h
   exact ⟨x,st',hx,fun F m hF hr B a w hB hn=>wpIn_cond_true rfl (hgo F m hF hr B a w hB hn)⟩
  ·obtain ⟨x,st',hx,hgo⟩:=fI he hmix hW d blk K _ h
   exact ⟨x,st',hx,fun F m hF hr B a w hB hn=>wpIn_cond_false rfl (hgo F m hF hr B a w hB hn)⟩
  ·exact h.elim
 | .block id c,blk,K,st,h=>by
  obtain ⟨x,st',hx,hgo⟩:=fI he hmix hW c id _ st h
  cases x with
  |normal=>
   refine ⟨.normal,st',hx,fun F m hF hr B a w hB hn=>wpIn_block (wpIn_mono (hgo F m hF hr B a w hB hn) ?_)⟩
   rintro e a' w' ⟨rfl,hn'⟩
   exact ⟨rfl,hn'⟩
  |exit i=>
   simp only at hx
   cases hb:Nat.beq i id with
   |true=>
    rw [hb] at hx
    refine ⟨.normal,st',hx,fun F m hF hr B a w hB hn=>wpIn_block (wpIn_mono (hgo F m hF hr B a w hB hn) ?_)⟩
    rintro e a' w' ⟨rfl,hn'⟩
    simp only [aAP,Exit.inBlock,if_pos (ai hb)]
    exact ⟨trivial,hn'⟩
   |false=>
    rw [hb] at hx
    refine ⟨.exit i,st',hx,fun F m hF hr B a w hB hn=>wpIn_block (wpIn_mono (hgo F m hF hr B a w hB hn) ?_)⟩
    rintro e a' w' ⟨rfl,hn'⟩
    have hne:i≠id:=by rintro rfl;rw [fb] at hb;cases hb
    simp only [aAP,Exit.inBlock,if_neg hne]
    exact ⟨trivial,hn'⟩
  |ret=>
   refine ⟨.ret,st',hx,fun F m hF hr B a w hB hn=>wpIn_block (wpIn_mono (hgo F m hF hr B a w hB hn) ?_)⟩
   rintro e a' w' ⟨rfl,hn'⟩
   exact ⟨rfl,hn'⟩
 | .loop c,blk,K,st,h=>by
  simp only [fA] at h
  have done: ∀(n:Nat) (E:(Ex->St->Prop)->St->Prop) (st:St),
    (∀(K:Ex->St->Prop) (st:St),E K st-> ∃x st',K x st'/\aHr P env.rnd n0 c st x st')->
    iter E K n st-> ∃x st',K x st'/\aHr P env.rnd n0 (.loop c) st x st':=by
   intro n E st hE hi
   obtain ⟨x,st',_,hx,hr2⟩:=W7 hE n st hi
   exact ⟨x,st',hx,fun F m hF hr B a w hB hn=>wpIn_loop_rounds n (hr2 F m hF hr B a w hB hn)⟩
  split at h
  ·obtain ⟨n,h⟩:=h
   obtain ⟨s',hw,h⟩:=MC h
   obtain ⟨x,st',hx,hgo⟩:=done n _ s' (fun K st h=>by
    obtain ⟨x,st1,hx,hgo⟩:=fI he hmix hW c blk (fun e=>wk (W blk) (K e)) st h
    obtain ⟨st2,hw,hx⟩:=MC hx
    exact ⟨x,st2,hx,fun F m hF hr B a w hB hn=>wpIn_mono (hgo F m hF hr B a w hB hn) fun e a' w' ⟨h1,h2⟩=>⟨h1,hW _ _ _ hw B a' w' hB h2⟩⟩) h
   exact ⟨x,st',hx,fun F m hF hr B a w hB hn=>hgo F m hF hr B a w hB (hW _ _ _ hw B a w hB hn)⟩
  ·exact done _ _ _ (fun K st h=>fI he hmix hW c blk K st h) h
 | .exit id,blk,K,st,h=>⟨.exit id,st,h,fun F m hF hr B a w hB hn=>wpIn_exit ⟨rfl,hn⟩⟩
 | .ret,blk,K,st,h=>⟨.ret,st,h,fun F m hF hr B a w hB hn=>wpIn_ret ⟨rfl,hn⟩⟩
 | .region id ops draw,blk,K,st,h=>by
  simp only [fA] at h
  cases hd:EE st.nt ops.toList with
  |false=>rw [hd] at h;exact h.elim
  |true=>
   rw [hd] at h
   simp only [ar] at h
   cases hcut:env.cut id with
   |false=>
    rw [hcut] at h
    obtain ⟨st',hK,hgo⟩:=J4 he hmix (id:=id) hd (K:=K .normal) h
    exact ⟨.normal,st',hK,fun F m hF hr B a w hB hn=>hgo B a w hn F m hF _ fun a' w' hn'=>⟨rfl,hn'⟩⟩
   |true=>
    rw [hcut] at h
    obtain ⟨s',hw,h⟩:=MC h
    obtain ⟨hs',h⟩:=If.elim h
    obtain ⟨st',hK,hgo⟩:=J4 he hmix (id:=id) (by rw [ai hs'];exact hd) (K:=K .normal) h
    exact ⟨.normal,st',hK,fun F m hF hr B a w hB hn=>hgo B a w (hW _ _ _ hw B a w hB hn) F m hF _ fun a' w' hn'=>⟨rfl,hn'⟩⟩
 | .rangeFunc g ps assign body,blk,K,st,h=>by
  simp only [fA] at h
  cases hc:env.rnd|| !(tK st.nt ps.toList) with
  |true=>rw [hc] at h;exact h.elim
  |false=>
  rw [hc] at h
  simp only [dh] at hc
  simp only [ap] at h
  split at h
  ·rename_i k first cap hg
   cases hft:MR env k with
   |true=>rw [hft] at h;exact h.elim
   |false=>
   rw [hft] at h
   simp only [ap] at h
   obtain ⟨v,u,n,rd,wr,hK,hgo⟩:=aEV he hg hft h
   simp only [vF] at hK
   split at hK
   ·rename_i tm nt ps' as bd pend hlk
    rcases pend with _|_|e
    ·exact ⟨.normal,_,hK,fun F m hF hr B a w hB hn=>hgo F m hF (hr hc.1) B a w hn _ _ _ _ _ _ hlk (by intro e;cases e) _ fun a' w' hn'=>⟨rfl,hn'⟩⟩
    ·exact hK.elim
    ·refine ⟨e,_,hK,fun F m hF hr B a w hB hn=>hgo F m hF (hr hc.1) B a w hn _ _ _ _ _ _ hlk (by intro e;cases e) _ fun a' w' hn'=>⟨?_,hn'⟩⟩
     cases e<;>rfl
   ·exact hK.elim
  ·exact h.elim
 | .scope _,blk,K,st,h=>h.elim
 | .label _,blk,K,st,h=>h.elim
 | .goto _,blk,K,st,h=>h.elim
 | .refuse _,blk,K,st,h=>h.elim
end Go.Se
namespace Go.Se
variable {P:Program}
theorem FW : ∀(xs:List SV) (i t:Nat),get (params xs i) t=if h:i<=t/\t - i<xs.length then xs[t - i]'h.2 else .junk
 | [],i,t=>by simp [params,get]
 |x::xs,i,t=>by
  simp only [params,get]
  by_cases e:i=t
  ·subst e;simp
  ·have hb:Nat.beq i t=false:=by rw [cf];intro h;exact e (ai h)
   rw [hb,ap,FW xs (i+1) t]
   by_cases h:i+1<=t/\t - (i+1)<xs.length
   ·rw [dif_pos h,dif_pos ⟨by omega,by simp;omega⟩]
    have:t - i=(t - (i+1))+1:=by omega
    simp [this]
   ·rw [dif_neg h,dif_neg]
    rintro ⟨h1,h2⟩
    simp only [az] at h2
    exact h ⟨by omega,by omega⟩
theorem nX : ∀(σ:List (Option SB)) (i t:Nat),aO (uX σ i) t=if h:i<=t/\t - i<σ.length then σ[t - i]'h.2 else none
 | [],i,t=>by simp [uX,aO]
 |x::xs,i,t=>by
  simp only [uX,aO]
  by_cases e:i=t
  ·subst e;simp
  ·have hb:Nat.beq i t=false:=by rw [cf];intro h;exact e (ai h)
   rw [hb,ap,nX xs (i+1) t]
   by_cases h:i+1<=t/\t - (i+1)<xs.length
   ·rw [dif_pos h,dif_pos ⟨by omega,by simp;omega⟩]
    have:t - i=(t - (i+1))+1:=by omega
    simp [this]
   ·rw [dif_neg h,dif_neg]
    rintro ⟨h1,h2⟩
    simp only [az] at h2
    exact h ⟨by omega,by omega⟩
theorem vH : ∀(n i:Nat),(rP n)[i]? =if i<n then some i else none
 |0,i=>by simp [rP]
 |n+1,i=>by
  have hlen:(rP n).length=n:=by
   have:=fun j=>vH n j
   rcases Nat.lt_trichotomy (rP n).length n with h|h|h
   ·have h1:=this (rP n).length
    rw [if_pos h] at h1
    simp at h1
   ·exact h
   ·have h1:=this n
    rw [if_neg (gy _),be h] at h1
    cases h1
  simp only [rP]
  rcases Nat.lt_trichotomy i n with h|h|h
  ·rw [fh (by omega),vH n i,if_pos h,if_pos (by omega)]
  ·subst h
   rw [fr (by omega),hlen];simp
  ·rw [fr (by omega),hlen,if_neg (by omega)]
   have:i - n≠0:=by omega
   rw [dy (by simp;omega)]
theorem aCq(n:Nat):(rP n).length=n:=by
 rcases Nat.lt_trichotomy (rP n).length n with h|h|h
 ·have h1:=vH n (rP n).length
  rw [if_pos h] at h1
  simp at h1
 ·exact h
 ·have h1:=vH n n
  rw [if_neg (gy _),be h] at h1
  cases h1
theorem RS {env:Env} (he:rA P env) {st:St} {r:ResultVar} {v:SV} (h:C0 env st r=some v) {B:mW P} {A:Nat->Prop} {D:List Nat} {nt:Nat} {a:Act} {w:World}
  {ρ:aL} {T:Nat->Prop} (hh:iL B (get st.tmps) (aO st.store) A D nt a w ρ T):
  ∃y,((match r with| .tmp t=>Pure.pure (a.tmps.getD t undef)| .cell x t=>(do loadVar t (<- asAddr (a.tmps.getD x undef)))):Sem Value).run P w= .ok y w/\rel ρ T w v y:=by
 cases r with
 |tmp t=>
  simp only [C0,an] at h
  subst h
  exact ⟨_,rfl,hh.tmps t⟩
 |cell x t=>
  simp only [C0] at h
  split at h
  ·rename_i ti id off ht hx
   split at h
   ·rename_i e cs hl
    have h1:=hh.tmps x
    rw [hx] at h1
    obtain ⟨b,h2,h3⟩:=h1
    obtain ⟨_,b',h4,h5,vs,h6,h7⟩:=hh.store id _ hl
    rw [h2] at h4;cases h4
    obtain ⟨y,h8,h9⟩:=BS (he.tt _ _ ht) h6 h7 h
    refine ⟨y, ?_,h9⟩
    simp only [Sem.run_bind,h3,asAddr,Sem.run_pure,Result.andThen_ok,h8]
   ·cases h
  ·cases h
theorem CF {env:Env} (he:rA P env) {st:St} {B:mW P} {A:Nat->Prop} {D:List Nat} {nt:Nat} {a:Act} {w:World}
  {ρ:aL} {T:Nat->Prop} (hh:iL B (get st.tmps) (aO st.store) A D nt a w ρ T): ∀(rs:List ResultVar) (vs:List SV),sM env st rs=some vs->
  ∃ys,(rs.mapM fun r=>((match r with| .tmp t=>Pure.pure (a.tmps.getD t undef)| .cell x t=>(do loadVar t (<- asAddr (a.tmps.getD x undef)))):Sem Value)).run P w= .ok ys w/\aX ρ T w vs ys
 | [],vs,h=>by
  simp only [sM,an] at h
  subst h
  exact ⟨[],rfl,rfl⟩
 |r::rs,vs,h=>by
  simp only [sM] at h
  split at h
  ·rename_i v vs' hv hvs
   cases h
   obtain ⟨y,h1,h2⟩:=RS he hv hh
   obtain ⟨ys,h3,h4⟩:=CF he hh rs vs' hvs
   refine ⟨y::ys, ?_,y,ys,rfl,h2,h4⟩
   rw [List.mapM_cons]
   simp only [Sem.run_bind,h1,Result.andThen_ok,h3,Sem.run_pure]
  ·cases h
theorem VB {env:Env} (he:rA P env) {st:St} {fn:Func} {vs:List SV} (h:sM env st fn.results.toList=some vs) {B:mW P} {A:Nat->Prop} {D:List Nat} {nt:Nat} {a:Act} {w:World}
  {ρ:aL} {T:Nat->Prop} (hh:iL B (get st.tmps) (aO st.store) A D nt a w ρ T):
  ∃y,(results fn a.tmps).run P w= .ok y w/\rel ρ T w (J8 vs) y:=by
 obtain ⟨ys,h1,h2⟩:=CF he hh _ _ h
 refine ⟨if hs:ys.toArray.size=1 then ys.toArray[0] else .tuple ys.toArray, ?_, ?_⟩
 ·unfold results
  rw [Sem.run_bind]
  have:(fn.results.mapM fun r=>((match r with| .tmp t=>Pure.pure (a.tmps.getD t undef)| .cell x t=>(do loadVar t (<- asAddr (a.tmps.getD x undef)))):Sem Value)).run P w= .ok ys.toArray w:=by
   rw [<- Array.toArray_toList (xs:=fn.results),List.mapM_toArray]
   simp only [Sem.run_map,h1,Result.andThen_ok]
  exact congrArg (fun r:Result (Array Value)=>r.andThen fun b w'=>Sem.run P (Pure.pure (if h:b.size=1 then b[0] else Value.tuple b):Sem Value) w') this
 ·have hl:=bV h2
  match vs,h2,hl with
  | [v],h2,_=>
   obtain ⟨y,r,h3,h4,h5⟩:=h2
   have h5':r=[]:=h5
   subst h5'
   subst h3
   simpa [J8] using h4
  | [],h2,hl=>
   rw [dif_neg (by simp at hl|-;omega)]
   exact ⟨ys.toArray,rfl,by simpa using h2⟩
  |_::_::_,h2,hl=>
   rw [dif_neg (by simp at hl|-;omega)]
   exact ⟨ys.toArray,rfl,by simpa using h2⟩
theorem B5 {st:St} {w:World} {ρ:aL} {T:Nat->Prop} {σ:List (Option SB)} {v:SV} {F G:List Nat} (hF:iZ st.store 200 (rP σ.length++ids v) []=F) (hG:rP σ.length++F.filter (fun i=>Nat.ble σ.length i)=G)
  {D:List Nat} (hD:D=st.dirty) {A:Nat->Prop} {nt:Nat} {a':Act} {w':World} {ρ':aL} {T':Nat->Prop} {tm:Nat->SV} (hh:iL (⟨w,ρ,T,σ.length⟩:mW P) tm (aO st.store) A D nt a' w' ρ' T') {y:Value} (hy2:rel ρ' T' w' v y):
  ∃ρ2 T2,kJ ρ T w σ (ren (fun i=>idx G i 0) v) (G.map fun i=>(aO st.store i).map (mB fun i=>idx G i 0)) (st.dirty.filter fun i=>Nat.blt i σ.length) ρ2 T2 w' y:=by
 subst hD
 obtain ⟨hnd,halive⟩:=sL (s:=st.store) 200 (rP σ.length++ids v) [] List.nodup_nil (by simp)
 rw [hF] at hnd halive
 have hup:=aCq σ.length
 have hGlt: ∀p,p<σ.length->G[p]? =some p:=by
  intro p hp
  rw [<- hG,fh (by omega),vH,if_pos hp]
 have hGge: ∀p i,σ.length<=p->G[p]? =some i->(F.filter fun i=>Nat.ble σ.length i)[p - σ.length]? =some i:=by
  intro p i hp hi
  rw [<- hG,fr (by omega),hup] at hi
  exact hi
 have hGlen:σ.length<=G.length:=by rw [<- hG,au];omega
 let ρ2:aL:=fun p=>(G[p]?).bind ρ'
 have hren: ∀i j b,(fun i=>idx G i 0) i=some j->ρ' i=some b->ρ2 j=some b:=by
  intro i j b hi hb
  obtain ⟨_,hj⟩:=QI hi
  rw [dk] at hj
  show (G[j]?).bind ρ'=some b
  rw [hj];exact hb
 have hdead: ∀q,q∈st.dirty->q<σ.length->aO st.store q=none->
   q∈(st.dirty.filter fun i=>Nat.blt i σ.length)/\(G.map fun i=>(aO st.store i).map (mB fun i=>idx G i 0))[q]? =some none:=by
  intro q h1 h2 h3
  refine ⟨List.mem_filter.2 ⟨h1,by simpa using h2⟩, ?_⟩
  rw [fm,hGlt q h2,dq,h3];rfl
 have hdone:kJ ρ T w σ (ren (fun i=>idx G i 0) v) (G.map fun i=>(aO st.store i).map (mB fun i=>idx G i 0)) (st.dirty.filter fun i=>Nat.blt i σ.length) ρ2 T' w' y:=by
  refine {
   names:=fun p b hp=> ?_
   only:=fun p b hp=> ?_
   len:=by simpa using hGlen
   val:=tS hren _ _ hy2
   store:=fun p sb hp=> ?_
   fresh:=fun p b hp hb=> ?_
   inj:=fun p q b hp hq h1 h2=> ?_
   dirty:=fun p hp=>by simpa using (List.mem_filter.1 hp).2
   grow:=hh.grow.mono fun b _ ⟨p,h1,h2,h3⟩=>⟨p,List.mem_filter.2 ⟨h1,by simpa using h2⟩,h3⟩
   tback:=hh.tback
   below:=fun p b hp=> ?_
   tkeep:=fun b hb hT=> ?_}
  ·have h1:=hh.old p b hp
   show (G[p]?).bind ρ'=some b
   rw [hGlt p h1.1];exact h1.2
  ·obtain ⟨i,hi,_⟩:=dp.1 hp
   have:=(ca.1 hi).1
   simpa using this
  ·rw [fm] at hp
   cases hi:G[p]? with
   |none=>rw [hi] at hp;cases hp
   |some i=>
    rw [hi,dq,an] at hp
    cases hl:aO st.store i with
    |none=>rw [hl] at hp;cases hp
    |some sb0=>
     rw [hl,dq,an] at hp
     subst hp
     obtain ⟨_,b,h1,h2,h3⟩:=hh.store i sb0 hl
     exact ⟨b,by show (G[p]?).bind ρ'=some b;rw [hi];exact h1,h2,vA hren h3⟩
  ·obtain ⟨i,hi,hib⟩:=dp.1 hb
   have h1:=ef (hGge p i hp hi)
   obtain ⟨h2,h3⟩:=List.mem_filter.1 h1
   obtain ⟨sb,hsb⟩:=halive i h2
   rcases hh.fresh i b (by rw [hsb];rfl) (cd h3) hib with h4|⟨q,h4,h5,h6,h7⟩
   ·exact .inl h4
   ·obtain ⟨h8,h9⟩:=hdead q h4 h5 h6
    exact .inr ⟨q,h8,h9,h7⟩
  ·obtain ⟨i,hi,hib⟩:=dp.1 h1
   obtain ⟨j,hj,hjb⟩:=dp.1 h2
   have hi':=hGge p i hp hi
   have hj':=hGge q j hq hj
   obtain ⟨si,hsi⟩:=halive i (List.mem_filter.1 (ef hi')).1
   obtain ⟨sj,hsj⟩:=halive j (List.mem_filter.1 (ef hj')).1
   have hij:=hh.inj i j b (by rw [hsi];rfl) (by rw [hsj];rfl) hib hjb
   subst hij
   obtain ⟨l1,e1⟩:=ca.1 hi'
   obtain ⟨l2,e2⟩:=ca.1 hj'
   have:=BD (hnd.filter _) l1 l2 (e1.trans e2.symm)
   omega
  ·obtain ⟨i,hi,hib⟩:=dp.1 hp
   exact (hh.names i b hib).2
  ·rcases hh.tkeep b hb hT with h1|⟨q,h1,h2,h3,h4⟩
   ·exact .inl h1
   ·obtain ⟨h5,h6⟩:=hdead q h1 h2 h3
    exact .inr ⟨q,h5,h6,h4⟩
 exact ⟨ρ2,T',hdone⟩
theorem UT {env:Env} (he:rA P env) (hmix:P.follows .mixedOrders=true) {W:Nat->Nat->St->Option St} (hW: ∀n,vG P n (W n)) {k:FuncId} {fn:Func} (hf:P.funcs[k]? =some fn)
  (hname:(fn.name== "runtime.NumGoroutine")=false) (xs:List SV) (σ:List (Option SB)):Sat P k xs σ (VQ env W fn xs σ):=by
 intro K h
 unfold VQ at h
 split at h
 ·exact h.elim
 ·rename_i c hbody
  obtain ⟨x,st,hx,hgo⟩:=fI he hmix (hW σ.length) c _ _ _ h
  have hfin:MM env σ.length fn.results.toList K st/\(aAP x= .normal\/aAP x= .ret):=by
   cases x with
   |normal=>exact ⟨hx,.inl rfl⟩
   |exit i=>exact hx.elim
   |ret=>exact ⟨hx,.inr rfl⟩
  obtain ⟨hfin,hex⟩:=hfin
  unfold MM at hfin
  split at hfin
  ·exact hfin.elim
  ·rename_i vs hvs
   unfold wG at hfin
   simp only at hfin
   generalize hv:J8 vs=v at hfin
   obtain ⟨hnd,halive⟩:=sL (s:=st.store) 200 (rP σ.length++ids v) [] List.nodup_nil (by simp)
   generalize hF:iZ st.store 200 (rP σ.length++ids v) []=F at hfin hnd halive
   generalize hG:rP σ.length++F.filter (fun i=>Nat.ble σ.length i)=G at hfin
   refine ⟨ren (fun i=>idx G i 0) v,G.map fun i=>(aO st.store i).map (mB fun i=>idx G i 0),st.dirty.filter fun i=>Nat.blt i σ.length,hfin, ?_⟩
   intro ρ T w vals hvals hstore hinj hnames
   let B:mW P:=⟨w,ρ,T,σ.length⟩
   have hlen:=bV hvals
   have hlen':xs.length=vals.size:=by simpa using hlen
   have hstart:Now B ⟨params xs 0,uX σ 0,σ.length,[],xs.length+(fn.ntmps - xs.length)⟩ {tmps:=vals++Array.replicate (fn.ntmps - vals.size) undef,defers:=[]} w:=by
    refine ⟨av _,ρ,T, ?_⟩
    exact {
     defers:=zW.nil
     size:=by simp [hlen']
     tmps:=fun t=>by
      rw [FW]
      split
      ·rename_i ht
       simp only [dk] at ht|-
       obtain ⟨y,hy1,hy2⟩:=GP t hvals (be ht.2)
       have:(vals++Array.replicate (fn.ntmps - vals.size) undef).getD t undef=y:=by
        rw [bv,Array.getElem?_append_left (by omega)]
        rw [bt] at hy1
        rw [hy1];rfl
       rw [this];exact hy2
      ·trivial
     store:=fun id sb hid=>by
      rw [nX] at hid
      split at hid
      ·rename_i ht
       simp only [dk] at ht hid
       obtain ⟨sb',b,h1,h2,h3,h4⟩:=hstore id ht.2
       rw [be ht.2,hid] at h1
       cases h1
       exact ⟨ht.2,b,h2,h3,h4⟩
      ·cases hid
     names:=hnames
     inj:=fun i j b _ _ h1 h2=>hinj i j b h1 h2
     base:=fun _ h=>h
     full:=fun p hp=>by obtain ⟨_,b,_,h2,_⟩:=hstore p hp;exact ⟨b,h2⟩
     grow:=bG.refl _ _
     old:=fun p b hp=>⟨(hnames p b hp).1,hp⟩
     tback:=fun _ _ h=>h
     tkeep:=fun _ _ h=> .inl h
     fresh:=fun id b hid hn _=>by
      exfalso
      rw [nX] at hid
      split at hid
      ·rename_i ht;simp only [dk] at ht;exact absurd hn (Nat.not_le.2 ht.2)
      ·cases hid
     inv:=hnames.inv}
   have hwp:=hgo Fence.wide 0 ⟨none,rfl⟩ (fun _=>rfl) B _ w rfl hstart
   left
   refine ⟨fn,hf,by rw [hbody];rfl,hname,callsIn_wide.1 (callsIn_of_wp_marks (n:=0) hf hbody trivial (wpIn_mono hwp ?_))⟩
   rintro e a0 w0 ⟨rfl,hB',ρ',T',hh0⟩
   obtain ⟨marks,hm1,hm2,hm3⟩:=hh0.defers
   have key:=zF (fn:=fn) marks a0 w0 hm1 hm2 hm3 hh0 (R:=fun e w'=> ∃x,e= .returned x/\ ∃ρ2 T2,kJ ρ T w σ (ren (fun i=>idx G i 0) v) (G.map fun i=>(aO st.store i).map (mB fun i=>idx G i 0)) (st.dirty.filter fun i=>Nat.blt i σ.length) ρ2 T2 w' x) ?_
   ·rcases hex with hex|hex<;>rw [hex]<;>exact key
   intro a' w' htm hh
   rw [<- htm]
   obtain ⟨y,hy1,hy2⟩:=VB he hvs hh
   rw [hv] at hy2
   obtain ⟨ρ2,T2,hdone⟩:=B5 hF hG rfl hh hy2
   exact ⟨y,hy1,y,rfl,ρ2,T2,hdone⟩
theorem HI{env:Env}(he:rA P env)(hrnd:env.rnd=true)(hmix:P.follows .mixedOrders=true){W:Nat->Nat->St->Option St}(hW: ∀n,vG P n (W n))(xs:List SV)(σ:List (Option SB)):aHK P xs σ (AY env W xs σ):=by
 intro K h
 unfold AY at h
 split at h
 case h_2=>exact h.elim
 rename_i tm nt ps assign body r
 cases hc:Nat.beq ps.length xs.length&&tK nt ps with
 |false=>rw [hc] at h;exact h.elim
 |true=>
 rw [hc] at h
 simp only [af] at hc
 obtain ⟨hc1,hc2⟩:=hc
 have hc1:=ai hc1
 simp only [ar] at h
 obtain ⟨x1,st1,hx1,hgo1⟩:=fI he hmix (hW _) assign _ _ _ h
 cases x1 with
 |exit id=>exact hx1.elim
 |ret=>exact hx1.elim
 |normal=>
 simp only at hx1
 split at hx1
 case h_2=>exact hx1.elim
 rename_i tm1 nt1 ps1 as1 bd1 hlk1
 obtain ⟨x2,st2,hx2,hgo2⟩:=fI he hmix (hW _) body _ _ _ hx1
 split at hx2
 case h_2=>exact hx2.elim
 rename_i tm2 nt2 ps2 as2 bd2 hlk2
 have hend: ∃(b:Bool) (pd:Pd),wG (r.length+1) (.bool b) K {st2 with store:=(0,some (.loop tm2 nt2 ps2 as2 bd2 pd))::st2.store,dirty:=kT st2.dirty [0]}/\b=(match x2 with| .normal=>true|_=>false)/\pd=(match x2 with| .normal=> .ready|e=> .left e):=by
  cases x2 with
  |normal=>exact ⟨true,.ready,hx2,rfl,rfl⟩
  |exit id=>exact ⟨false,.left (.exit id),hx2,rfl,rfl⟩
  |ret=>exact ⟨false,.left .ret,hx2,rfl,rfl⟩
 obtain ⟨b,pd,hfin,hb,hpd⟩:=hend
 unfold wG at hfin
 simp only at hfin
 generalize hF:iZ ((0,some (SB.loop tm2 nt2 ps2 as2 bd2 pd))::st2.store) 200 (rP (r.length+1)++ids (SV.bool b)) []=F at hfin
 generalize hG:rP (r.length+1)++F.filter (fun i=>Nat.ble (r.length+1) i)=G at hfin
 refine ⟨_,_,_,hfin, ?_⟩
 intro ρ T w vals hvals hstore hinj hlow
 obtain ⟨sb,l,h0,hl,hT,hrel⟩:=hstore 0 (by simp)
 simp only [cv,an] at h0
 subst h0
 obtain ⟨rec0,hr1,hr2,hr3,rfl,rfl,hr6,hr7⟩:=hrel
 have hlen:=bV hvals
 refine ⟨l,hl,rec0,hr1, ?_,fun F0 n hFw=> ?_⟩
 ·have:rec0.params.size=ps.length:=by rw [<- hr3];simp
  simp only [fe] at hlen
  omega
 refine roundIn_of_wpIn (hFw.fn _) ?_
 let B:mW P:=⟨w,ρ,T,r.length+1⟩
 have hzip:=XG ps xs vals.toList (get tm) rec0.tmps hc2 hr6 hc1 hvals hr7
 have hfold:(rec0.params.zip vals).foldl (fun tmps (t,a)=>tmps.setIfInBounds t a) rec0.tmps=(ps.zip vals.toList).foldl (fun tmps (t,a)=>tmps.setIfInBounds t a) rec0.tmps:=by
  rw [<- Array.foldl_toList,Array.toList_zip,hr3]
 rw [hfold]
 have hstart:Now B ⟨aEp ps xs++tm,uX (some (.loop tm nt ps rec0.assign rec0.body .ready)::r) 0,r.length+1,[],nt⟩ {tmps:=(ps.zip vals.toList).foldl (fun tmps (t,a)=>tmps.setIfInBounds t a) rec0.tmps,defers:=[]} w:=by
  refine ⟨av _,ρ,T, ?_⟩
  exact {
   defers:=zW.nil
   size:=hzip.1
   tmps:=fun t=>by rw [N9 ps xs tm t hc2];exact hzip.2 t
   store:=fun id sb hid=>by
    rw [nX] at hid
    split at hid
    ·rename_i ht
     simp only [dk] at ht hid
     obtain ⟨sb',b,h1,h2,h3,h4⟩:=hstore id ht.2
     rw [be ht.2,hid] at h1
     cases h1
     exact ⟨by simpa using ht.2,b,h2,h3,h4⟩
    ·cases hid
   names:=fun id b hid=>by have:=hlow.low id b hid;simpa using this
   inj:=fun i j b _ _ h1 h2=>hinj i j b h1 h2
   base:=fun _ h=>h
   full:=fun p hp=>by obtain ⟨_,b,_,h2,_⟩:=hstore p (by simpa using hp);exact ⟨b,h2⟩
   grow:=bG.refl _ _
   old:=fun p b hp=>⟨by have:=(hlow.low p b hp).1;simpa using this,hp⟩
   tback:=fun _ _ h=>h
   tkeep:=fun _ _ h=> .inl h
   fresh:=fun id b hid hn _=>by
    exfalso
    rw [nX] at hid
    split at hid
    ·rename_i ht
     have h1:id<r.length+1:=by have:=ht.2;simpa using this
     have h2:r.length+1<=id:=hn
     omega
    ·cases hid
   inv:=hlow.inv}
 have g1:=hgo1 (F0.inRound l) n (hFw.in l) (fun e=>by rw [hrnd] at e;cases e) B _ w rfl hstart
 refine wpIn_mono g1 ?_
 rintro e a1 w1 ⟨rfl,hB1,ρ1,T1,hh1⟩
 have hl1:ρ1 0=some l:=(hh1.old 0 l hl).2
 obtain ⟨_,l1,e1,e2,rec1,f1,f2,f3,f4,f5,f6,f7⟩:=hh1.store 0 _ hlk1
 rw [hl1] at e1;cases e1
 show∃w₂,(Instr.beginRound l).run P w1= .ok () w₂/\_
 refine ⟨_,run_beginRound f1 f2.1, ?_⟩
 have hp1:=pZ (o':= .loop {rec1 with state:= .busy}) f1 (fun _ _ _ e=>by cases e)
 have hn2:Now B {st1 with store:=(0,some (.loop tm1 nt1 ps1 as1 bd1 .busy))::st1.store,dirty:=kT st1.dirty [0]} a1 (w1.putObj l (.loop {rec1 with state:= .busy})):=by
  refine ⟨hB1,ρ1,T1,hh1.turnRec (by rw [hlk1];rfl) hl1 hp1 e2 ?_ (de _) (fun p hp=>(fY _ _ _).2 (.inl hp)) ((fY _ _ _).2 (.inr (by simp)))⟩
  exact ⟨_,World.putObj_heap_same (bk.1 f1).1,rfl,f3,f4,f5,f6,fun t=>pK hp1 _ _ (f7 t)⟩
 have g2:=hgo2 (F0.inRound l) n (hFw.in l) (fun e=>by rw [hrnd] at e;cases e) B a1 _ rfl hn2
 refine wpIn_mono g2 ?_
 rintro e a2 w3 ⟨rfl,hB3,ρ3,T3,hh3⟩
 have hl3:ρ3 0=some l:=(hh3.old 0 l hl).2
 obtain ⟨_,l3,k1,k2,rec2,m1,m2,m3,m4,m5,m6,m7⟩:=hh3.store 0 _ hlk2
 rw [hl3] at k1;cases k1
 have fin: ∀(jump:Option Code) (o:LoopState),o=(if jump.isNone then .ready else .done)->aD8 pd o jump->b=jump.isNone->
   ∃v w',(Instr.endRound l jump).run P w3= .ok v w'/\ ∃x,Ending.returned v= .returned x/\ ∃ρ' T',kJ ρ T w (some (.loop tm nt ps rec0.assign rec0.body .ready)::r) (ren (fun i=>idx G i 0) (SV.bool b)) (G.map fun i=>(aO ((0,some (SB.loop tm2 nt2 ps2 as2 bd2 pd))::st2.store) i).map (mB fun i=>idx G i 0)) ((kT st2.dirty [0]).filter fun i=>Nat.blt i (r.length+1)) ρ' T' w' x:=by
  intro jump o ho hpo hbj
  have hp3:=pZ (o':= .loop {rec2 with state:=if jump.isNone then .ready else .done,pending:=jump}) m1 (fun _ _ _ e=>by cases e)
  have hh4:=hh3.turnRec (Ds':=kT st2.dirty [0]) (sb:= .loop tm2 nt2 ps2 as2 bd2 pd) (by rw [hlk2];rfl) hl3 hp3 k2
   ⟨_,World.putObj_heap_same (bk.1 m1).1,by rw [<- ho];exact hpo,m3,m4,m5,m6,fun t=>pK hp3 _ _ (m7 t)⟩ (de _) (fun p hp=>(fY _ _ _).2 (.inl hp)) ((fY _ _ _).2 (.inr (by simp)))
  refine ⟨_,_,run_endRound jump m1,_,rfl, ?_⟩
  have:=B5 (st:={st2 with store:=(0,some (SB.loop tm2 nt2 ps2 as2 bd2 pd))::st2.store,dirty:=kT st2.dirty [0]}) (σ:=some (.loop tm nt ps rec0.assign rec0.body .ready)::r) (v:= .bool b) (F:=F) (G:=G) hF hG rfl hh4 (y:= .bool jump.isNone) (by rw [hbj];rfl)
  exact this
 cases x2 with
 |normal=>
  subst hb;subst hpd
  exact fin none _ rfl ⟨rfl,rfl⟩ rfl
 |exit id=>
  subst hb;subst hpd
  exact fin (some (.exit id)) _ rfl ⟨rfl,rfl⟩ rfl
 |ret=>
  subst hb;subst hpd
  exact fin (some .ret) _ rfl ⟨rfl,rfl⟩ rfl
theorem DD {env:Env} (he:aB1 P env) (hmix:P.follows .mixedOrders=true) {W:Nat->Nat->St->Option St} (hW: ∀n,vG P n (W n)) {known:FuncId->Bool}
  (hft: ∀k fn,env.ft k=some fn->P.funcs[k]? =some fn/\(fn.name== "runtime.NumGoroutine")=false):
  ∀(d:Nat),(∀(k:FuncId) (xs:List SV) (σ:List (Option SB)),Sat P k xs σ (calls env W known d k xs σ))/\ ∀(xs:List SV) (σ:List (Option SB)),aHK P xs σ (calls.roundsN env W known d xs σ)
 |0=>⟨fun k xs σ=>he.callee k xs σ,fun _ _ _ h=>h.elim⟩
 |d+1=>by
  obtain ⟨ih1,ih2⟩:=DD he hmix hW (known:=known) hft d
  refine ⟨fun k xs σ K h=> ?_,fun xs σ K h=> ?_⟩
  ·simp only [calls] at h
   cases hk:known k with
   |true=>rw [hk] at h;exact he.callee k xs σ K h
   |false=>
    rw [hk] at h
    simp only [ap] at h
    split at h
    ·exact h.elim
    ·rename_i fn hfn
     obtain ⟨h1,h2⟩:=hft k fn hfn
     exact UT (env:={env with callee:=calls env W known d,round:=fun xs σ K=>calls.roundsN env W known d xs σ K}) ⟨⟨he.tt,fun k xs σ=>ih1 k xs σ⟩,fun xs σ=>ih2 xs σ,hft⟩ hmix hW h1 h2 xs σ K h
  ·simp only [calls.roundsN] at h
   exact HI (env:={env with callee:=calls env W known d,round:=fun xs σ K=>calls.roundsN env W known d xs σ K,rnd:=true}) ⟨⟨he.tt,fun k xs σ=>ih1 k xs σ⟩,fun xs σ=>ih2 xs σ,hft⟩ rfl hmix hW xs σ K h
theorem bS {env:Env} (he:aB1 P env) (hmix:P.follows .mixedOrders=true) {W:Nat->Nat->St->Option St} (hW: ∀n,vG P n (W n)) {known:FuncId->Bool}
  (hft: ∀k fn,env.ft k=some fn->P.funcs[k]? =some fn/\(fn.name== "runtime.NumGoroutine")=false)
  (d:Nat) (k:FuncId) (xs:List SV) (σ:List (Option SB)):Sat P k xs σ (calls env W known d k xs σ):=(DD he hmix hW hft d).1 k xs σ
end Go.Se
namespace Go.Se
variable {P:Program}
structure Val where
 int:List Nat->Int
 bool:List Nat->Bool
 str:List Nat->ByteArray
 len:List Nat->Nat
def Val.sub(V:Val)(i:Nat):Val:=⟨fun q=>V.int (i::q),fun q=>V.bool (i::q),fun q=>V.str (i::q),fun q=>V.len (i::q)⟩
def Val.zero :Val:=⟨fun _=>0,fun _=>false,fun _=>ByteArray.empty,fun _=>0⟩
def Val.join(n:Int)(b:Bool)(s:ByteArray)(l:Nat)(F:Nat->Val):Val:=
 ⟨fun| []=>n|i::q=>(F i).int q,fun| []=>b|i::q=>(F i).bool q,fun| []=>s|i::q=>(F i).str q,fun| []=>l|i::q=>(F i).len q⟩
def mkF(M:TypeId->Val->List SV):Nat->List (Nat×TypeId)->Val->List SV
 |_,[],_=>[]
 |i,(_,t)::fs,V=>M t (V.sub i)++mkF M (i+1) fs V
def mkN(M:Val->List SV):Nat->Nat->Val->List SV
 |_,0,_=>[]
 |i,n+1,V=>M (V.sub i)++mkN M (i+1) n V
def mk(tt:TypeId->Option TI):Nat->TypeId->Val->List SV
 |0,_,_=>[]
 |d+1,t,V=>match tt t with
  |none=>[]
  |some ti=>match ti.kind with
   | .bool=>[.bool (V.bool [])]
   | .int k=>[.int k (V.int [])]
   | .string=>[.str (V.str [])]
   | .slice e=>match tt e with
    |some te=>[.ro (V.len []) te.size fun i=>mk tt d e (V.sub i)]
    |none=>[]
   | .struct fs=>mkF (mk tt d) 0 fs V
   | .array n e=>mkN (mk tt d e) 0 n V
   |_=>[]
def vQ(tt:TypeId->Option TI):Nat->List (Nat×TypeId)->Option Nat
 |o,[]=>some o
 |o,(off,t)::fs=>match tt t with
  |some ti=>bif Nat.beq off o then vQ tt (o+ti.size) fs else none
  |none=>none
def B6(tt:TypeId->Option TI):Nat->TypeId->Bool
 |0,_=>false
 |d+1,t=>match tt t with
  |none=>false
  |some ti=>match ti.kind with
   | .bool=>true
   | .int _=>true
   | .string=>true
   | .slice e=>B6 tt d e&&(match tt e with|some te=>Nat.blt 0 te.size|none=>false)
   | .struct fs=>fs.all (fun f=>B6 tt d f.2)&&(match vQ tt 0 fs with|some n=>Nat.beq n ti.size|none=>false)
   | .array n e=>B6 tt d e&&(match tt e with|some te=>Nat.beq (n*te.size) ti.size|none=>false)
   |_=>false
theorem IE{α β:Type}{f:α->Option β}: ∀{l:List α} {r:List β},l.mapM f=some r-> ∀(i:Nat) x,l[i]? =some x-> ∃y,r[i]? =some y/\f x=some y
 | [],r,_,i,x,h=>by simp at h
 |a::l,r,hm,i,x,h=>by
  rw [List.mapM_cons] at hm
  cases ha:f a with
  |none=>rw [ha] at hm;simp at hm
  |some b=>
   rw [ha] at hm
   cases hl:l.mapM f with
   |none=>rw [hl] at hm;simp at hm
   |some bs=>
    rw [hl] at hm
    simp at hm
    subst hm
    cases i with
    |zero=>simp at h;subst h;exact ⟨b,by simp,ha⟩
    |succ i=>simpa using IE hl i x (by simpa using h)
theorem PQ{α β:Type}{f:α->Option β}: ∀{l:List α} {r:List β},l.mapM f=some r->r.length=l.length
 | [],r,hm=>by simp at hm;subst hm;rfl
 |a::l,r,hm=>by
  rw [List.mapM_cons] at hm
  cases ha:f a with
  |none=>rw [ha] at hm;simp at hm
  |some b=>
   rw [ha] at hm
   cases hl:l.mapM f with
   |none=>rw [hl] at hm;simp at hm
   |some bs=>
    rw [hl] at hm
    simp at hm
    subst hm
    simp [PQ hl]
theorem FT{T:Nat->Prop}{w:World}{b:Nat}: ∀{xs:List SV} {cs:List Value} {o:Nat},aX (fun _=>none) T w xs cs->(∀j c,cs[j]? =some c->w.cell? ⟨b,o+j,none⟩=some c)->fJ T w xs b o
 | [],cs,o,_,_=>trivial
 |x::xs,cs,o,⟨v,r,h1,h2,h3⟩,hc=>by
  subst h1
  refine ⟨⟨v,hc 0 v (by simp),h2⟩,FT h3 fun j c hj=> ?_⟩
  have:=hc (j+1) c (by simpa using hj)
  rw [show o+1+j=o+(j+1) by omega];exact this
section
variable {H:Type} {enc:TypeId×Value->H} {w:World} {tt:TypeId->Option TI}
theorem pO{t:TypeId}{ti:TI}(h:gJ P t ti):P.cellsOf t=ti.size:=by
 obtain ⟨⟨i,hi,h1,_⟩,_⟩:=h
 simp [Program.cellsOf,hi,h1]
theorem JI{base:Nat}{a:Addr}{n:Nat}{cs:List Value}(h:w.cells? base a n=some cs):cs.length=n/\ ∀j,j<n->w.cell? (a.add j)=cs[j]? :=by
 unfold World.cells? at h
 split at h
 ·refine ⟨by simpa using PQ h,fun j hj=> ?_⟩
  obtain ⟨y,h1,h2⟩:=IE h j j (by simp [hj])
  rw [h1];exact h2
 ·cases h
theorem HZ{M:TypeId->Val->List SV}{gs:List Field}{cs:List Value}(htt: ∀t ti,tt t=some ti->gJ P t ti):
  ∀(fs:List (Nat×TypeId)) (o k n:Nat),vQ tt o fs=some n->o<=cs.length->n<=cs.length->
   (∀(i off:Nat) (t:TypeId),fs[i]? =some (off,t)-> ∃V,aX (fun _=>none) (fun _=>False) w (M t V) ((cs.drop off).take (P.cellsOf t)))->
   ∃F:Nat->Val,∀V:Val,(∀i,k<=i->V.sub i=F i)->aX (fun _=>none) (fun _=>False) w (mkF M k fs V) ((cs.drop o).take (n - o))/\o<=n
 | [],o,k,n,hc,ho,hn,_=>by
  simp only [vQ,an] at hc
  subst hc
  exact ⟨fun _=>Val.zero,fun V _=>⟨by simp [mkF,aX],av _⟩⟩
 |(off,t)::fs,o,k,n,hc,ho,hn,hf=>by
  simp only [vQ] at hc
  split at hc
  ·rename_i ti ht
   cases hb:Nat.beq off o with
   |false=>rw [hb] at hc;cases hc
   |true=>
    rw [hb] at hc
    simp only [ar] at hc
    have hoff:=ai hb
    subst hoff
    have hsz:=pO (htt _ _ ht)
    obtain ⟨V0,hV0⟩:=hf 0 off t (by simp)
    have hmono: ∀(fs:List (Nat×TypeId)) (o n:Nat),vQ tt o fs=some n->o<=n:=by
     intro fs
     induction fs with
     |nil=>intro o n h;simp only [vQ,an] at h;omega
     |cons p fs ih=>
      intro o n h
      obtain ⟨off',t'⟩:=p
      simp only [vQ] at h
      split at h
      ·rename_i ti' _
       cases hb':Nat.beq off' o with
       |false=>rw [hb'] at h;cases h
       |true=>rw [hb'] at h;have:=ih _ _ h;omega
      ·cases h
    have hle:=hmono _ _ _ hc
    obtain ⟨F,hF⟩:=HZ (M:=M) (gs:=gs) htt fs (off+ti.size) (k+1) n hc (by omega) hn (fun i off' t' h=>hf (i+1) off' t' (by simpa using h))
    refine ⟨fun i=>if i=k then V0 else F i,fun V hV=>⟨?_,by omega⟩⟩
    obtain ⟨h1,_⟩:=hF V fun i hi=>(hV i (by omega)).trans (if_neg (by omega))
    simp only [mkF]
    rw [(hV k (av _)).trans (if_pos rfl)]
    have hsplit:(cs.drop off).take (n - off)=(cs.drop off).take ti.size++(cs.drop (off+ti.size)).take (n - (off+ti.size)):=by
     rw [show n - off=ti.size+(n - (off+ti.size)) by omega,List.take_add,List.drop_drop]
    rw [hsplit]
    rw [hsz] at hV0
    exact gN hV0 h1
  ·cases hc
theorem NT{M:Val->List SV}{cs:List Value}{size:Nat}: ∀(n k:Nat),(k+n)*size<=cs.length->
   (∀i,k<=i->i<k+n-> ∃V,aX (fun _=>none) (fun _=>False) w (M V) ((cs.drop (i*size)).take size))->
   ∃F:Nat->Val,∀V:Val,(∀i,k<=i->V.sub i=F i)->aX (fun _=>none) (fun _=>False) w (mkN M k n V) ((cs.drop (k*size)).take (n*size))
 |0,k,_,_=>⟨fun _=>Val.zero,fun V _=>by simp [mkN,aX]⟩
 |n+1,k,hle,hf=>by
  obtain ⟨V0,hV0⟩:=hf k (av _) (by omega)
  obtain ⟨F,hF⟩:=NT (M:=M) (cs:=cs) (size:=size) n (k+1) (by rw [show k+1+n=k+(n+1) by omega];exact hle) (fun i h1 h2=>hf i (by omega) (by omega))
  refine ⟨fun i=>if i=k then V0 else F i,fun V hV=> ?_⟩
  have h1:=hF V fun i hi=>(hV i (by omega)).trans (if_neg (by omega))
  simp only [mkN]
  rw [(hV k (av _)).trans (if_pos rfl)]
  have hsplit:(cs.drop (k*size)).take ((n+1)*size)=(cs.drop (k*size)).take size++(cs.drop ((k+1)*size)).take (n*size):=by
   rw [show (n+1)*size=size+n*size by rw [Nat.succ_mul,Nat.add_comm],List.take_add,List.drop_drop,show k*size+size=(k+1)*size by rw [Nat.succ_mul]]
  rw [hsplit]
  exact gN hV0 h1
theorem C5(htt: ∀t ti,tt t=some ti->gJ P t ti): ∀(d:Nat) (t:TypeId) (fuel:Nat) (cs:List Value) (x:DataW H×List MemPlace),
  B6 tt d t=true->DataW.trod enc P w 0 (fun _=>true) true fuel t cs=some x->
  ∃V,aX (fun _=>none) (fun _=>False) w (mk tt d t V) cs
 |0,t,fuel,cs,x,hp,h=>by cases hp
 |d+1,t,fuel,cs,x,hp,h=>by
  simp only [B6] at hp
  split at hp
  ·cases hp
  ·rename_i ti ht
   have hti:=htt _ _ ht
   cases hk:ti.kind<;>simp only [hk] at hp<;>try (cases hp;done)
   case bool=>
    obtain ⟨b,rfl,_⟩:=DataW.trod_bool (wZ hti hk) h
    exact ⟨Val.join 0 b ByteArray.empty 0 fun _=>Val.zero,by simp only [mk,ht,hk];exact ⟨_,_,rfl,rfl,rfl⟩⟩
   case int k=>
    obtain ⟨n,rfl,_,hw⟩:=DataW.trod_int (sO hti hk) h
    simp only [Lit.wf,af,ak] at hw
    exact ⟨Val.join n false ByteArray.empty 0 fun _=>Val.zero,by simp only [mk,ht,hk];exact ⟨_,_,rfl,⟨rfl,hw⟩,rfl⟩⟩
   case string=>
    obtain ⟨s,rfl,_,hs⟩:=DataW.trod_string (gL hti hk) h
    have hs':s.size<9223372036854775808:=by unfold maxLen at hs;omega
    exact ⟨Val.join 0 false s 0 fun _=>Val.zero,by simp only [mk,ht,hk];exact ⟨_,_,rfl,⟨rfl,hs'⟩,rfl⟩⟩
   case slice e=>
    simp only [af] at hp
    obtain ⟨hpe,hsz⟩:=hp
    split at hsz
    ·rename_i te hte
     have hsz':0<te.size:=by simpa using hsz
     rcases DataW.trod_slice (cK hti hk) h with ⟨rfl,_⟩|⟨a,len,cap,elems,rest,n,rfl,rfl,_,_,hlc,hcm,hel,hread,_,_⟩
     ·refine ⟨Val.join 0 false ByteArray.empty 0 fun _=>Val.zero, ?_⟩
      simp only [mk,ht,hk,hte]
      exact ⟨_,_,rfl,⟨none,0,rfl,⟨by show (0:Nat)<=0;decide,by show (0:Nat)<_;decide,fun _=>rfl⟩,fun h0=>absurd h0 (gy 0)⟩,rfl⟩
     ·have hcells:=pO (htt _ _ hte)
      have hone: ∀i,i<len-> ∃V,∃cs,w.cells? 0 (a.add (i*te.size)) te.size=some cs/\aX (fun _=>none) (fun _=>False) w (mk tt d e V) cs:=by
       intro i hi
       have h1:=hread i hi
       rw [hcells] at h1
       rw [be (by omega)] at h1
       obtain ⟨cs',h2,h3⟩:=dp.1 h1
       obtain ⟨V,hV⟩:=C5 htt d e n cs' _ hpe h3
       exact ⟨V,cs',h2,hV⟩
      have hex: ∃F:Nat->Val,∀i,i<len-> ∃cs,w.cells? 0 (a.add (i*te.size)) te.size=some cs/\aX (fun _=>none) (fun _=>False) w (mk tt d e (F i)) cs:=by
       classical
       exact ⟨fun i=>if h:i<len then (hone i h).choose else Val.zero,fun i hi=>by simp only [hi,dif_pos];exact (hone i hi).choose_spec⟩
      obtain ⟨F,hF⟩:=hex
      refine ⟨Val.join 0 false ByteArray.empty len F, ?_⟩
      simp only [mk,ht,hk,hte]
      refine ⟨_,_,rfl,⟨some a,cap,rfl, ?_,fun h0=> ?_⟩,rfl⟩
      ·refine ⟨hlc, ?_,fun he=>by cases he⟩
       show len<_
       unfold maxLen at hcm;omega
      ·have h0':0<len:=h0
       obtain ⟨b,off,sp⟩:=a
       obtain ⟨cs0,h1,_⟩:=hF 0 h0'
       obtain ⟨h2,h3⟩:=JI h1
       have h4:=h3 0 hsz'
       have hadd:(Addr.mk b off sp).add (0*te.size)=⟨b,off,sp⟩:=by simp [Addr.add]
       have hadd0:(Addr.mk b off sp).add 0=⟨b,off,sp⟩:=by simp [Addr.add]
       rw [hadd,hadd0,be (by omega)] at h4
       have hsp:sp=none:=by
        unfold World.cell? at h4
        cases sp with
        |none=>rfl
        |some s=>
         simp only at h4
         split at h4
         ·simp at h4
         ·cases h4
       subst hsp
       refine ⟨b,off,rfl,xS h4,fun h=>h,fun i hi=> ?_⟩
       obtain ⟨cs',h5,h6⟩:=hF i hi
       obtain ⟨h7,h8⟩:=JI h5
       have h6':aX (fun _=>none) (fun _=>False) w (mk tt d e ((Val.join 0 false ByteArray.empty len F).sub i)) cs':=h6
       refine FT h6' fun j c hj=> ?_
       have hj':j<te.size:=by have:=(ca.1 hj).1;omega
       have:=h8 j hj'
       rw [dL,dL] at this
       rw [this];exact hj
    ·cases hsz
   case struct fs=>
    simp only [af,gb] at hp
    obtain ⟨hpf,hc⟩:=hp
    split at hc
    ·rename_i n hn
     have hn':=ai hc
     obtain ⟨gs,hgs,hfs,_⟩:=kG hti hk
     obtain ⟨xs,m,rfl,_,hlen,hxs,hread⟩:=DataW.trod_struct hgs h
     have hcl:=pO hti
     have hfield: ∀(i off:Nat) (t':TypeId),fs[i]? =some (off,t')-> ∃V,aX (fun _=>none) (fun _=>False) w (mk tt d t' V) ((cs.drop off).take (P.cellsOf t')):=by
      intro i off t' hi
      rw [hfs,fm] at hi
      cases hg:gs.toList[i]? with
      |none=>rw [hg] at hi;cases hi
      |some g=>
       rw [hg] at hi
       simp only [dq,an,bn] at hi
       obtain ⟨rfl,rfl⟩:=hi
       have hr:=hread i g (by simpa using hg)
       have hlt:i<xs.length:=by have:=(ca.1 hg).1;simp at this;omega
       rw [be hlt] at hr
       exact C5 htt d g.type m _ _ (hpf (g.offset,g.type) (by rw [hfs];exact fa.2 ⟨g,ef hg,rfl⟩)) hr
     obtain ⟨F,hF⟩:=HZ (M:=mk tt d) (gs:=gs.toList) htt fs 0 0 n hn (cn _) (by omega) hfield
     refine ⟨Val.join 0 false ByteArray.empty 0 F, ?_⟩
     obtain ⟨h1,_⟩:=hF (Val.join 0 false ByteArray.empty 0 F) fun i _=>rfl
     simp only [mk,ht,hk]
     rw [gq,dk,gc (by omega)] at h1
     exact h1
    ·cases hc
   case array n e=>
    simp only [af] at hp
    obtain ⟨hpe,hsz⟩:=hp
    split at hsz
    ·rename_i te hte
     have hsz':=ai hsz
     obtain ⟨xs,m,rfl,_,hlen,hxs,hread⟩:=DataW.trod_array (i2 hti hk) h
     have hcl:=pO hti
     have hcells:=pO (htt _ _ hte)
     obtain ⟨F,hF⟩:=NT (w:=w) (M:=mk tt d e) (cs:=cs) (size:=te.size) n 0 (by rw [bi];omega) (fun i _ hi=>by
      have hr:=hread i (by omega)
      rw [be (by omega),hcells] at hr
      exact C5 htt d e m _ _ hpe hr)
     refine ⟨Val.join 0 false ByteArray.empty 0 F, ?_⟩
     have h1:=hF (Val.join 0 false ByteArray.empty 0 F) fun i _=>rfl
     simp only [mk,ht,hk]
     rw [ce,gq,gc (by omega)] at h1
     exact h1
    ·cases hsz
end
end Go.Se
namespace Go.Se
open Go.RowKit Go.WideShapes Go.ChangeShapes
variable {P:Program}
section
variable {H:Type} {enc:TypeId×Value->H}
theorem G9 {f:Func} {s:ChangeSpec} {apart fresh handsOn again:Bool} {W W':World} {args:Array Value} {v:Value} {ds gs:List (DataW H)} {before pa pv:List MemPlace}
  (hW:DataW.Whole enc P f.params.toList s.vars apart W args.toList ds gs before)
  (hres: ∀(b:Nat) (sp:Nat->Bool) (hd:Bool),DataW.TrodAll enc P W' b sp hd f.resultTypes.toList (v.resultList f.resultTypes.size) (s.fn H (ds++gs)).results [])
  (hargs: ∀sp:Nat->Bool,(∀p∈before,sp p.block=true)->DataW.TrodAll enc P W' 0 sp true f.params.toList args.toList (s.fn H (ds++gs)).args pa)
  (hvars: ∀sp:Nat->Bool,(∀p∈before,sp p.block=true)->DataW.TrodVars enc P W' sp s.vars (s.fn H (ds++gs)).vars pv)
  (hps:before=pa++pv) (hb:Below W.heap.size W W')
  (hok: ∀(j:Nat) (t:TypeId) (r:Value),f.resultTypes[j]? =some t->(v.resultList f.resultTypes.size)[j]? =some r->Value.okWide P W' .any 0 t r):
  s.post enc P f apart fresh handsOn again W args v W':=by
 have hlt: ∀p∈before,p.block<W.heap.size:=fun p hp=>hW.lt p hp
 have hold: ∀p∈before,(fun b=>decide (b<W.heap.size)) p.block=true:=fun p hp=>by simpa using hlt p hp
 refine ⟨ds,gs,before,[],pa,pv,hW,hres _ _ _,hargs _ hold,hvars _ hold,World.keptBut_mono (fun p hp=>⟨hp, ?_⟩) (hb.frame (· ∈before)),fun _=> ?_⟩
 ·rw [hps,ct] at hp
  exact Or.inr hp
 ·obtain ⟨_,_,_,_,_,hz,hn⟩:=hW
  refine ⟨hok,_,_,([]++pa)++pv,⟨[]++pa,pv,trodAll_append (hargs _ (fun _ _=>rfl)) (hres _ _ _),hvars _ (fun _ _=>rfl),rfl, ?_, ?_⟩, ?_⟩
  ·intro b off hp
   have hin:MemPlace.cell b off∈before:=by rw [hps];simpa using hp
   rw [hb.frozen (hlt _ hin)]
   exact hz b off hin
  ·intro ha
   have:=hn ha
   rw [hps] at this
   simpa using this
  ·intro p hp _
   rw [hps]
   simpa using hp
end
def aBP(tt:TypeId->Option TI)(d:Nat)(t:TypeId)(V:Val):SV:=
 match tt t with
 |some ti=>match ti.kind with
  | .struct _=> .agg (mk tt d t V)
  | .array _ _=> .agg (mk tt d t V)
  |_=>match mk tt d t V with
   | [x]=>x
   |_=> .junk
 |none=> .junk
def EN(tt:TypeId->Option TI)(d:Nat):Nat->List TypeId->Val->List SV
 |_,[],_=>[]
 |i,t::ts,V=>aBP tt d t (V.sub i)::EN tt d (i+1) ts V
section
variable {H:Type} {enc:TypeId×Value->H} {w:World} {tt:TypeId->Option TI}
theorem aLx (htt: ∀t ti,tt t=some ti->gJ P t ti) {d:Nat} {t:TypeId} {v:Value} {x:DataW H} {ps:List MemPlace} {base:Nat}
  (hp:B6 tt d t=true) (hv:Value.okWide P w .any base t v) (h:DataW.Trod enc P w 0 (fun _=>true) true t v x ps):
  ∃V,rel (fun _=>none) (fun _=>False) w (aBP tt d t V) v:=by
 obtain ⟨fuel,hf⟩:=h
 obtain ⟨V,hV⟩:=C5 htt d t fuel _ _ hp hf
 refine ⟨V, ?_⟩
 unfold aBP
 cases ht:tt t with
 |none=>trivial
 |some ti=>
  have hti:=htt _ _ ht
  obtain ⟨ds,hd,hk⟩:=hti.desc
  have hagg:(∃cs,v= .agg cs)->rel (fun _=>none) (fun _=>False) w (.agg (mk tt d t V)) v:=by
   rintro ⟨cs,rfl⟩
   exact ⟨cs,rfl,hV⟩
  have hone:v.cells= #[v]->rel (fun _=>none) (fun _=>False) w (match mk tt d t V with| [x]=>x|_=>SV.junk) v:=by
   intro hc
   rw [hc] at hV
   split
   ·rename_i y hy
    rw [hy] at hV
    obtain ⟨_,_,h1,h2,h3⟩:=hV
    simp at h1
    obtain ⟨rfl,rfl⟩:=h1
    exact h2
   ·trivial
  have hcells:(∀cs,v≠ .agg cs)->v.cells= #[v]:=by
   intro h
   cases v<;>first|rfl|exact absurd rfl (h _)
  cases hkk:ti.kind<;>(simp only [hkk])
  case struct fs=>
   obtain ⟨gs,hgs,_⟩:=kG hti hkk
   apply hagg
   unfold Value.okWide at hv
   rw [hgs] at hv
   obtain ⟨cs,h1,_⟩:=hv
   exact ⟨cs,h1⟩
  case array n e=>
   have hgs:=i2 hti hkk
   apply hagg
   unfold Value.okWide at hv
   rw [hgs] at hv
   obtain ⟨cs,h1,_⟩:=hv
   exact ⟨cs,h1⟩
  all_goals
   refine hone (hcells ?_)
   rintro cs rfl
   rw [hkk] at hk
   unfold Value.okWide at hv
   rw [hd] at hv
   cases ds<;>simp only [lM,an,reduceCtorEq] at hk<;>(try simp [Cell.okWide,Cell.ok,hd] at hv)
   all_goals (rename_i fsx;cases hb:fsx.toList.all (fun f=>f.name != "_")<;>rw [hb] at hk<;>simp at hk)
theorem WE(htt: ∀t ti,tt t=some ti->gJ P t ti){d:Nat}{base:Nat}: ∀(ts:List TypeId) (vs:List Value) (ds:List (DataW H)) (ps:List MemPlace) (k:Nat),
  ts.all (B6 tt d)=true->(∀(j:Nat) t v,ts[j]? =some t->vs[j]? =some v->Value.okWide P w .any base t v)->DataW.TrodAll enc P w 0 (fun _=>true) true ts vs ds ps->
  ∃F:Nat->Val,∀V:Val,(∀i,k<=i->V.sub i=F i)->aX (fun _=>none) (fun _=>False) w (EN tt d k ts V) vs
 | [],vs,ds,ps,k,_,_,h=>by
  refine ⟨fun _=>Val.zero,fun V _=> ?_⟩
  cases vs with
  |nil=>rfl
  |cons v vs=>cases ds<;>exact h.elim
 |t::ts,[],ds,ps,k,_,_,h=>by cases ds<;>exact h.elim
 |t::ts,v::vs,[],ps,k,_,_,h=>h.elim
 |t::ts,v::vs,x::ds,ps,k,hp,hv,h=>by
  obtain ⟨p,q,h1,h2,_⟩:=h
  rw [List.all_cons,af] at hp
  obtain ⟨V0,hV0⟩:=aLx htt hp.1 (hv 0 t v rfl rfl) h1
  obtain ⟨F,hF⟩:=WE htt ts vs ds q (k+1) hp.2 (fun j t' v' h h'=>hv (j+1) t' v' (by simpa using h) (by simpa using h')) h2
  refine ⟨fun i=>if i=k then V0 else F i,fun V hV=> ?_⟩
  have h3:=hF V fun i hi=>(hV i (by omega)).trans (if_neg (by omega))
  refine ⟨v,vs,rfl, ?_,h3⟩
  rw [(hV k (av _)).trans (if_pos rfl)]
  exact hV0
theorem G6{W W':World}(h:bG (fun _=>False) W W'):Below W.heap.size W W':=
 ⟨h.os,h.tape,h.output,h.size,fun k hk=>h.same k hk id⟩
theorem xO(hl:laidOutB P=true){W W':World}(hb:Below W.heap.size W W'): ∀(ts:List TypeId) (vs:List Value) (ds:List (DataW H)) (ps:List MemPlace),
  ts.all (fun t=>P.readableRec t&&decide (t<P.types.size))=true->DataW.TrodAll enc P W 0 (fun _=>true) true ts vs ds ps->(∀p∈ps,p.block<W.heap.size)->
  ∀sp:Nat->Bool,(∀p∈ps,sp p.block=true)->DataW.TrodAll enc P W' 0 sp true ts vs ds ps
 | [],[],[],ps,_,h,_,_,_=>h
 | [],_::_,_,ps,_,h,_,_,_=>h.elim
 | [],[],_::_,ps,_,h,_,_,_=>h.elim
 |t::ts,[],ds,ps,_,h,_,_,_=>by cases ds<;>exact h.elim
 |t::ts,v::vs,[],ps,_,h,_,_,_=>h.elim
 |t::ts,v::vs,x::ds,ps,hr,h,hlt,sp,hsp=>by
  obtain ⟨p,q,h1,h2,rfl⟩:=h
  rw [List.all_cons,af,af,ak] at hr
  refine ⟨p,q, ?_,xO hl hb ts vs ds q hr.2 h2 (fun y hy=>hlt y (List.mem_append_right _ hy)) sp (fun y hy=>hsp y (List.mem_append_right _ hy)),rfl⟩
  exact WideElems.Trod_stays hl hr.1.1 hr.1.2 h1 (fun y hy=>hb.same (hlt y (List.mem_append_left _ hy))) (fun y hy=>hsp y (List.mem_append_left _ hy))
theorem aBB {C:Checked} (hl:laidOutB C.prog=true) (htt: ∀t ti,tt t=some ti->gJ C.prog t ti) {d:Nat} {k:FuncId} {fn:Func} (hfn:C.prog.funcs[k]? =some fn) (hbody:fn.body.isNone=false)
  (hpl:fn.params.toList.all (B6 tt d)=true) (hrd:fn.params.toList.all (fun t=>C.prog.readableRec t&&decide (t<C.prog.types.size))=true)
  {tb:TypeId} (hres:fn.resultTypes= #[tb]) (hbool:C.prog.underlying tb=some .bool)
  {s:ChangeSpec} (hvars:s.vars=[]) (hspec: ∀ds:List (DataW H),ds.length=fn.params.size->s.fn H ds={results:=[.lit (.bool true)],args:=ds})
  {Φ:Val->KC->Prop} (hsat: ∀V,Sat C.prog k (EN tt d 0 fn.params.toList V) [] (Φ V))
  (hlaw: ∀V,Φ V fun v _ _=>v= .bool true) {apart fresh handsOn again:Bool}
  (W:World) (base:Nat) (args:Array Value) (ds gs:List (DataW H)) (before:List MemPlace)
  (hinv: ∀g v,yU C.prog=some (g,v)->W.cell? ⟨g,0,none⟩=some v)
  (hval: ∀(j:Nat) t v,fn.params[j]? =some t->args[j]? =some v->Value.okWide C.prog W .any base t v)
  (hW:DataW.Whole enc C.prog fn.params.toList s.vars apart W args.toList ds gs before):
  Calls C.prog k args W fun e W'=> ∃v,e= .returned v/\s.post enc C.prog fn apart fresh handsOn again W args v W':=by
 have hW':=hW
 obtain ⟨p,q,hA,hV,rfl,hz,hn⟩:=hW
 rw [hvars] at hV
 obtain ⟨rfl,rfl⟩:=trodVars_none hV
 obtain ⟨F,hF⟩:=WE htt _ _ _ _ 0 hpl (fun j t v h h'=>hval j t v (by simpa using h) (by simpa using h')) hA
 have hargs:=hF (Val.join 0 false ByteArray.empty 0 F) fun i _=>rfl
 obtain ⟨v,σ',dd,hv,hcall⟩:=hsat (Val.join 0 false ByteArray.empty 0 F) _ (hlaw _)
 subst hv
 have hrun:=hcall (fun _=>none) (fun _=>False) W args hargs (fun p hp=>absurd hp (dn _)) (fun i j b h=>by cases h) ⟨fun p b h=>(by cases h),fun g v hg=>⟨fun h=>h,hinv g v hg⟩⟩
 have hlt: ∀x∈p,x.block<W.heap.size:=fun x hx=>hW'.lt x (by simpa using hx)
 have hlen: ∀(ts:List TypeId) (vs:List Value) (ds:List (DataW H)) (ps:List MemPlace),DataW.TrodAll enc C.prog W 0 (fun _=>true) true ts vs ds ps->ds.length=ts.length:=by
  intro ts
  induction ts with
  |nil=>intro vs ds ps h;cases vs<;>cases ds<;>first|rfl|exact h.elim
  |cons t ts ih=>
   intro vs ds ps h
   cases vs with
   |nil=>cases ds<;>exact h.elim
   |cons v vs=>cases ds with
    |nil=>exact h.elim
    |cons x ds=>obtain ⟨_,_,_,h2,_⟩:=h;simp [ih _ _ _ h2]
 have hds:ds.length=fn.params.size:=by rw [hlen _ _ _ _ hA];simp
 rcases hrun with ⟨fn',hfn',_,_,hc⟩|⟨x,w',hx,_⟩
 ·refine hc.mono fun e W' ⟨x,he,ρ',T',hd⟩=>⟨x,he, ?_⟩
  have hx:x= .bool true:=hd.val
  subst hx
  have hb:Below W.heap.size W W':=G6 (hd.grow.mono fun b _ ⟨_,_,h⟩=>by cases h)
  have hsp:=hspec ds hds
  refine G9 (pa:=p) (pv:=[]) hW' ?_ ?_ ?_ (by simp) hb (ok_one hres rfl (okWide_bool_mk hbool true))
  ·intro b sp hd
   rw [cm,hsp,hres]
   exact trodAll_mk1 (shut_bool hbool true)
  ·intro sp hs
   rw [cm,hsp]
   exact xO hl hb _ _ _ _ hrd hA hlt sp (fun y hy=>hs y (by simpa using hy))
  ·intro sp hs
   rw [cm,hsp,hvars]
   rfl
 ·exfalso
  have hc:(callFunc k args).run C.prog W=(if fn.name== "runtime.NumGoroutine" then (pure .numGoroutine:Sem Next) else pure (.enter k args)).run C.prog W:=by
   unfold callFunc
   simp only [Sem.run_bind,run_program,Result.andThen_ok,hfn,hbody,bz,ea]
  rw [hc] at hx
  split at hx<;>cases hx
end
end Go.Se
namespace Go.Se
def tA :Code->List Nat->Code
 |c,[]=>c
 | .seq a _,0::l=>tA a l
 | .seq _ b,_::l=>tA b l
 | .block _ a,_::l=>tA a l
 | .loop a,_::l=>tA a l
 | .cond _ a _,0::l=>tA a l
 | .cond _ _ b,_::l=>tA b l
 |c,_=>c
def LN(fn:Func):Code:=match fn.body with
 |some c=>c
 |none=> .skip
def UD(env:Env)(W:Nat->St->Option St):Nat->Code->List Nat->(Ex->St->Prop)->(Ex->St->Prop)
 |_,_,[],K=>K
 |blk,.seq a b,0::l,K=>UD env W blk a l (fun e s=>match e with
  | .normal=>fA env W blk b K s
  |e=>K e s)
 |blk,.seq _ b,_::l,K=>UD env W blk b l K
 |_,.block id a,_::l,K=>UD env W id a l (fun e s=>match e with
  | .exit i=>bif Nat.beq i id then K .normal s else K (.exit i) s
  |e=>K e s)
 |blk,.cond _ a _,0::l,K=>UD env W blk a l K
 |blk,.cond _ _ b,_::l,K=>UD env W blk b l K
 |_,_,_,K=>K
def aMJ(env:Env)(fn:Func)(n0:Nat)(K:KC):Ex->St->Prop:=fun e s=>match e with
 | .exit _=>False
 |_=>MM env n0 fn.results.toList K s
def BF(ρ:aL)(m:Nat):aL:=fun i=>if i<m then ρ i else none
mutual
theorem wK{ρ:aL}{T:Nat->Prop}{w:World}{m:Nat}: ∀(a:SV) (v:Value),(∀i∈ids a,i<m)->rel ρ T w a v->rel (BF ρ m) T w a v
 | .junk,_,_,_=>trivial
 | .int _ _,_,_,h=>h
 | .bool _,_,_,h=>h
 | .str _,_,_,h=>h
 | .nilp,_,_,h=>h
 | .ptr id off,v,hs,⟨b,h1,h2⟩=>⟨b,by unfold BF;rw [if_pos (hs id (by simp [ids]))];exact h1,h2⟩
 | .yld id,v,hs,⟨b,h1,h2⟩=>⟨b,by unfold BF;rw [if_pos (hs id (by simp [ids]))];exact h1,h2⟩
 | .rptr _,_,_,h=>h
 | .fn g x y,v,hs,⟨a,c,h1,h2,h3⟩=>⟨a,c,h1,lP x _ (fun i hi=>hs i (by simp [ids,hi])) h2,lP y _ (fun i hi=>hs i (by simp [ids,hi])) h3⟩
 | .nilfn,_,_,h=>h
 | .agg cs,v,hs,⟨a,h1,h2⟩=>⟨a,h1,lP cs _ (fun i hi=>hs i (by simpa [ids] using hi)) h2⟩
 | .tup cs,v,hs,⟨a,h1,h2⟩=>⟨a,h1,lP cs _ (fun i hi=>hs i (by simpa [ids] using hi)) h2⟩
 | .nils,_,_,h=>h
 | .emp,_,_,h=>h
 | .arr id off len cap,v,hs,⟨⟨b,h1,h2⟩,h3⟩=>⟨⟨b,by unfold BF;rw [if_pos (hs id (by simp [ids]))];exact h1,h2⟩,h3⟩
 | .eptr id i st o,v,hs,⟨b,h1,h2⟩=>⟨b,by unfold BF;rw [if_pos (hs id (by simp [ids]))];exact h1,h2⟩
 | .own id off st len,v,hs,⟨b,c,h1,h2⟩=>⟨b,c,by unfold BF;rw [if_pos (hs id (by simp [ids]))];exact h1,h2⟩
 | .ro _ _ _,_,_,h=>h
 | .nilI,_,_,h=>h
 | .iface t x,v,hs,⟨y,h1,h2⟩=>⟨y,h1,wK x y (fun i hi=>hs i (by simpa [ids] using hi)) h2⟩
theorem lP{ρ:aL}{T:Nat->Prop}{w:World}{m:Nat}: ∀(l:List SV) (r:List Value),(∀i∈ids.idsL l,i<m)->aX ρ T w l r->aX (BF ρ m) T w l r
 | [],_,_,h=>h
 |a::l,_,hs,⟨v,r,h1,h2,h3⟩=>⟨v,r,h1,wK a v (fun i hi=>hs i (by simp [ids.idsL,hi])) h2,lP l r (fun i hi=>hs i (by simp [ids.idsL,hi])) h3⟩
end
theorem VS : ∀(l:mQ) (t:Nat),∀i∈ids (get l t),i∈aHT l
 | [],t,i,h=>by simp [get,ids] at h
 |(u,v)::l,t,i,h=>by
  simp only [get] at h
  simp only [aHT,ct]
  cases hb:Nat.beq u t with
  |true=>rw [hb] at h;exact .inl h
  |false=>rw [hb] at h;exact .inr (VS l t i h)
theorem TJ{ρ:aL}{T:Nat->Prop}{w:World}{m:Nat}{sb:SB}{b:Nat}(hs: ∀i∈NL sb,i<m)(h:fV ρ T w sb b):fV (BF ρ m) T w sb b:=by
 cases sb with
 |cells e cs=>obtain ⟨vs,h1,h2⟩:=h;exact ⟨vs,h1,lP _ _ hs h2⟩
 |lst e cs=>obtain ⟨vs,h1,x,r,h2,h3⟩:=h;exact ⟨vs,h1,x,r,h2,lP _ _ hs h3⟩
 |row e st len g=>exact h
 |loop tm nt ps as bd pend=>obtain ⟨r,h1,h2,h3,h4,h5,h6,h7⟩:=h;exact ⟨r,h1,h2,h3,h4,h5,h6,fun t=>wK _ _ (fun i hi=>hs i (VS tm t i hi)) (h7 t)⟩
 |iter s pos=>exact h
def below(m:Nat)(l:List Nat):Bool:=l.all fun i=>Nat.blt i m
theorem PF{m:Nat}{l:List Nat}(h:below m l=true): ∀i∈l,i<m:=fun i hi=>by simpa using gb.1 h i hi
def WO(l:mQ)(m:Nat):mQ->Prop
 | []=>True
 |(t,v)::r=>(get l t=v/\below m (ids v)=true)/\WO l m r
def GS(l:eD)(m:Nat):eD->Prop
 | []=>True
 |(_i,none)::r=>GS l m r
 |(i,some sb)::r=>(aO l i=some sb/\Nat.blt i m=true/\below m (NL sb)=true)/\GS l m r
theorem JF{l:mQ}{m:Nat}: ∀{r:mQ},WO l m r-> ∀t,get r t= .junk\/(get r t=get l t/\below m (ids (get r t))=true)
 | [],_,t=> .inl rfl
 |(u,v)::r,⟨⟨h1,h3⟩,h2⟩,t=>by
  simp only [get]
  cases hb:Nat.beq u t with
  |true=>rw [ai hb] at h1;exact .inr ⟨h1.symm,h3⟩
  |false=>exact JF h2 t
theorem oG{l:eD}{m:Nat}: ∀{r:eD},GS l m r-> ∀t sb,aO r t=some sb->aO l t=some sb/\t<m/\below m (NL sb)=true
 | [],_,t,sb,h=>by simp [aO] at h
 |(u,none)::r,h2,t,sb,h=>by
  simp only [aO] at h
  cases hb:Nat.beq u t with
  |true=>rw [hb] at h;cases h
  |false=>rw [hb] at h;exact oG (r:=r) h2 t sb h
 |(u,some v)::r,⟨⟨h1,h3,h4⟩,h2⟩,t,sb,h=>by
  simp only [aO] at h
  cases hb:Nat.beq u t with
  |true=>
   rw [hb] at h
   simp only [ar,an] at h
   subst h
   rw [ai hb] at h1 h3
   exact ⟨h1,by simpa using h3,h4⟩
  |false=>rw [hb] at h;exact oG h2 t sb h
structure eI where
 ts:List Nat
 bs:List Nat
 d:List Nat
 m:Nat
 mv:List (Nat×Nat):=[]
def GE(l:mQ):List Nat->mQ
 | []=>[]
 |t::r=>(t,get l t)::GE l r
def D8(l:eD):List Nat->eD
 | []=>[]
 |t::r=>(t,aO l t)::D8 l r
def GH(m:Nat):mQ->Bool
 | []=>true
 |(_,v)::r=>below m (ids v)&&GH m r
def A9(m:Nat):eD->Bool
 | []=>true
 |(_,none)::r=>A9 m r
 |(i,some sb)::r=>Nat.blt i m&&below m (NL sb)&&A9 m r
def aEB(d:List Nat):List Nat->Bool
 | []=>true
 |p::r=>d.any (Nat.beq p)&&aEB d r
def aGw :SV->Option Nat
 | .own i _ _ _=>some i
 | .ptr i _=>some i
 | .iface _ (.ptr i _)=>some i
 | .fn _ [] (.ptr i _::_)=>some i
 | .fn _ (.ptr i _::_) _=>some i
 |_=>none
def mvF(a b i:Nat):Option Nat:=bif Nat.beq i a then some b else bif Nat.beq i b then none else some i
def aCp(t:SV)(s:eD):eD:=
 match t with
 | .own b 0 st len=>match aO s b with
  |some (.lst e cs)=>bif (ids.idsL cs).isEmpty&&Nat.beq cs.length (len*st) then (b,some (.row e st len (fun i=>cut cs (i*st) st)))::s else s
  |_=>s
 |_=>s
def GI(v:SV)(s:St):St:=⟨s.tmps,aCp v s.store,s.nxt,s.dirty,s.nt⟩
def aDl(t:Nat)(s:St):St:=GI (get s.tmps t) s
def zQ(f:Nat->Option Nat):eD->eD
 | []=>[]
 |(i,o)::r=>match f i with
  |some j=>(j,o.map (mB f))::zQ f r
  |none=>zQ f r
def BT(n0:Nat):List (Nat×Nat)->St->Option St
 | [],s=>some s
 |(t,b)::r,s=>match aGw (get s.tmps t) with
  |none=>BT n0 r s
  |some a=>bif Nat.beq a b then BT n0 r (aDl t s) else
    bif Nat.ble n0 a&&Nat.ble n0 b then BT n0 r (aDl t ⟨OL (mvF a b) s.tmps,zQ (mvF a b) s.store,bif Nat.ble s.nxt b then b+1 else s.nxt,s.dirty,s.nt⟩) else none
def JW(s:eD):SV->List Nat->SV
 |v,[]=>v
 | .yld i,k::r=>match aO s i with
  |some (.loop tm _ _ _ _ _)=>JW s (get tm k) r
  |_=> .junk
 |v,k::r=>match aGw v with
  |some i=>match aO s i with
   |some (.cells _ cs)=>JW s (nth cs k) r
   |_=> .junk
  |none=> .junk
def yI(n0:Nat):List ((Nat×List Nat)×Nat)->St->Option St
 | [],s=>some s
 |((t,p),b)::r,s=>match aGw (JW s.store (get s.tmps t) p) with
  |none=>yI n0 r s
  |some a=>bif Nat.beq a b then yI n0 r (GI (JW s.store (get s.tmps t) p) s) else
    let s':St:=⟨OL (mvF a b) s.tmps,zQ (mvF a b) s.store,bif Nat.ble s.nxt b then b+1 else s.nxt,bif Nat.ble n0 a then s.dirty else kT s.dirty [a],s.nt⟩
    bif Nat.ble n0 b&&(Nat.ble n0 a||(aO s.store a).isSome) then yI n0 r (GI (JW s'.store (get s'.tmps t) p) s') else none
def u3(n0:Nat)(R:eI)(s:St):Option St:=
 bif Nat.ble n0 R.m&&aEB R.d s.dirty&&GH R.m (GE s.tmps R.ts)&&A9 R.m (D8 s.store R.bs)
 then some ⟨GE s.tmps R.ts,D8 s.store R.bs,R.m,R.d,s.nt⟩ else none
def aA(R:List (Nat×eI))(n0 blk:Nat)(s:St):Option St:=
 match R with
 | []=>some s
 |(b,k)::r=>bif Nat.beq b blk then (match BT n0 k.mv s with
   |some s=>u3 n0 k s
   |none=>none) else aA r n0 blk s
def cM(R:List (Nat×eI×List ((Nat×List Nat)×Nat)))(n0 blk:Nat)(s:St):Option St:=
 match R with
 | []=>some s
 |(b,k,m)::r=>bif Nat.beq b blk then (match BT n0 k.mv s with
   |some s=>match yI n0 m s with
    |some s=>u3 n0 k s
    |none=>none
   |none=>none) else cM r n0 blk s
theorem P5{l:mQ}{m:Nat}: ∀{ts:List Nat},GH m (GE l ts)=true->WO l m (GE l ts)
 | [],_=>trivial
 |t::r,h=>by
  simp only [GE,GH,af] at h
  exact ⟨⟨rfl,h.1⟩,P5 h.2⟩
theorem GF{l:eD}{m:Nat}: ∀{ts:List Nat},A9 m (D8 l ts)=true->GS l m (D8 l ts)
 | [],_=>trivial
 |t::r,h=>by
  simp only [D8] at h|-
  cases hl:aO l t with
  |none=>rw [hl] at h;exact GF (ts:=r) h
  |some sb=>
   rw [hl] at h
   simp only [A9,af] at h
   exact ⟨⟨hl,h.1.1,h.1.2⟩,GF h.2⟩
theorem V2{d:List Nat}: ∀{l:List Nat},aEB d l=true-> ∀p,p∈l->p∈d
 | [],_,p,hp=>nomatch hp
 |q::r,h,p,hp=>by
  simp only [aEB,af] at h
  rcases cb.1 hp with rfl|hp
  ·exact mN.1 h.1
  ·exact V2 h.2 p hp
def GZ(P:Program)(n:Nat)(s s':St):Prop:= ∀(B:mW P) (a:Act) (w:World),B.n=n->Now B s a w->Now B s' a w
theorem aGW {P:Program} {n:Nat} {s s':St} (hn0:n<=s'.nxt) (hd: ∀p,p∈s.dirty->p∈s'.dirty) (ht:s'.nt=s.nt) (htm:WO s.tmps s'.nxt s'.tmps)
  (hst:GS s.store s'.nxt s'.store):GZ P n s s':=by
 rintro B a w rfl ⟨h1,ρ,T,h⟩
 refine ⟨hn0,BF ρ s'.nxt,T, ?_⟩
 have hcut: ∀{i b},BF ρ s'.nxt i=some b->i<s'.nxt/\ρ i=some b:=by
  intro i b hi
  unfold BF at hi
  split at hi
  ·rename_i hlt;exact ⟨hlt,hi⟩
  ·cases hi
 have hnone: ∀q,aO s.store q=none->aO s'.store q=none:=by
  intro q hq
  cases hl:aO s'.store q with
  |none=>rfl
  |some sb=>rw [(oG hst q sb hl).1] at hq;cases hq
 have hsome: ∀q,(aO s'.store q).isSome->(aO s.store q).isSome:=by
  intro q hq
  obtain ⟨sb,hsb⟩:=db.1 hq
  rw [(oG hst q sb hsb).1];rfl
 exact {
  defers:=h.defers
  size:=by rw [ht];exact h.size
  tmps:=fun t=>by
   rcases JF htm t with e|⟨e,hb⟩
   ·rw [e];trivial
   ·exact wK _ _ (PF hb) (by rw [e];exact h.tmps t)
  store:=fun id sb hid=>by
   obtain ⟨e,hlt,hb⟩:=oG hst id sb hid
   obtain ⟨_,b,b1,b2,b3⟩:=h.store id sb e
   exact ⟨hlt,b,by unfold BF;rw [if_pos hlt];exact b1,b2,TJ (PF hb) b3⟩
  names:=fun id b hid=>⟨(hcut hid).1,(h.names id b (hcut hid).2).2⟩
  inj:=fun i j b hi hj h1 h2=>h.inj i j b (hsome i hi) (hsome j hj) (hcut h1).2 (hcut h2).2
  base:=fun id hid=>dm hid hn0
  full:=h.full
  grow:=h.grow.mono fun b _ ⟨p,p1,p2⟩=>⟨p,hd p p1,p2⟩
  old:=fun p b hp=>⟨(h.old p b hp).1,by unfold BF;rw [if_pos (dm (h.old p b hp).1 hn0)];exact (h.old p b hp).2⟩
  tback:=h.tback
  tkeep:=fun b hb hT=>(h.tkeep b hb hT).imp (fun x=>x) fun ⟨q,q1,q2,q3,q4⟩=>⟨q,hd q q1,q2,hnone q q3,q4⟩
  fresh:=fun id b h1 h2 h3=>(h.fresh id b (hsome id h1) h2 (hcut h3).2).imp (fun x=>x) fun ⟨q,q1,q2,q3,q4⟩=>⟨q,hd q q1,q2,hnone q q3,q4⟩
  inv:=h.inv}
theorem pL{a b:Nat}(hab:a≠b): ∀(l:eD) (t:Nat),aO (zQ (mvF a b) l) t=if t=a then none else if t=b then (aO l a).map (mB (mvF a b)) else (aO l t).map (mB (mvF a b))
 | [],t=>by simp [zQ,aO]
 |(u,v)::l,t=>by
  have ih:=pL hab l t
  simp only [zQ,mvF]
  by_cases hua:u=a
  ·subst hua
   rw [fb]
   simp only [ar,aO,fb]
   by_cases htb:t=b
   ·subst htb
    have:t≠u:=fun e=>hab e.symm
    simp [this,fb]
   ·have hbt:Nat.beq b t=false:=by rw [cf];intro e;exact htb (ai e).symm
    rw [hbt,ap,ih]
    by_cases hta:t=u
    ·simp [hta]
    ·have hut:Nat.beq u t=false:=by rw [cf];intro e;exact hta (ai e).symm
     simp [hta,htb,hut]
  ·have hua':Nat.beq u a=false:=by rw [cf];intro e;exact hua (ai e)
   rw [hua']
   simp only [ap]
   by_cases hub:u=b
   ·subst hub
    rw [fb]
    simp only [ar]
    rw [ih]
    simp only [aO,hua',ap]
    by_cases hta:t=a
    ·simp [hta]
    ·by_cases htb:t=u
     ·simp [htb]
     ·have hut:Nat.beq u t=false:=by rw [cf];intro e;exact htb (ai e).symm
      simp [hta,htb,hut]
   ·have hub':Nat.beq u b=false:=by rw [cf];intro e;exact hub (ai e)
    rw [hub']
    simp only [ap,aO,hua']
    rw [ih]
    by_cases hut:u=t
    ·subst hut
     simp [hua,hub,fb]
    ·have hut':Nat.beq u t=false:=by rw [cf];intro e;exact hut (ai e)
     simp [hut']
theorem VY{P:Program}{n a b m:Nat}{s:St}(hab:a≠b)(ha:n<=a)(hb:n<=b)(hm:s.nxt<=m)(hbm:b<m):
  GZ P n s ⟨OL (mvF a b) s.tmps,zQ (mvF a b) s.store,m,s.dirty,s.nt⟩:=by
 rintro B act w rfl ⟨h1,ρ,T,h⟩
 let ρ2:aL:=fun i=>if i=b then ρ a else if i=a then none else ρ i
 have hf: ∀i j c,mvF a b i=some j->ρ i=some c->ρ2 j=some c:=by
  intro i j c hi hc
  unfold mvF at hi
  by_cases hia:i=a
  ·subst hia
   rw [fb] at hi
   cases hi
   show (if _ then _ else _)=_
   rw [if_pos rfl];exact hc
  ·rw [show Nat.beq i a=false by rw [cf];intro e;exact hia (ai e)] at hi
   simp only [ap] at hi
   by_cases hib:i=b
   ·rw [hib,fb] at hi;cases hi
   ·rw [show Nat.beq i b=false by rw [cf];intro e;exact hib (ai e)] at hi
    cases hi
    show (if _ then _ else if _ then _ else _)=_
    rw [if_neg hib,if_neg hia];exact hc
 have hlow: ∀q,q<B.n->aO s.store q=none->aO (zQ (mvF a b) s.store) q=none:=by
  intro q hq hn
  rw [pL hab,if_neg (by omega),if_neg (by omega),hn];rfl
 have hpre: ∀id sb,aO (zQ (mvF a b) s.store) id=some sb->id≠a/\ ∃sb0,aO s.store (if id=b then a else id)=some sb0/\sb=mB (mvF a b) sb0/\ρ2 id=ρ (if id=b then a else id):=by
  intro id sb hid
  rw [pL hab] at hid
  by_cases hia:id=a
  ·rw [if_pos hia] at hid;cases hid
  ·rw [if_neg hia] at hid
   refine ⟨hia, ?_⟩
   have hρ2:ρ2 id=ρ (if id=b then a else id):=by
    show (if _ then _ else if _ then _ else _)=_
    by_cases hib:id=b
    ·rw [if_pos hib,if_pos hib]
    ·rw [if_neg hib,if_neg hia,if_neg hib]
   by_cases hib:id=b
   ·rw [if_pos hib] at hid hρ2|-
    obtain ⟨sb0,h2,h3⟩:=Option.map_eq_some_iff.1 hid
    exact ⟨sb0,h2,h3.symm,hρ2⟩
   ·rw [if_neg hib] at hid hρ2|-
    obtain ⟨sb0,h2,h3⟩:=Option.map_eq_some_iff.1 hid
    exact ⟨sb0,h2,h3.symm,hρ2⟩
 refine ⟨fu h1 hm,ρ2,T, ?_⟩
 exact {
  defers:=h.defers
  size:=h.size
  tmps:=fun t=>by rw [zB];exact tS hf _ _ (h.tmps t)
  store:=fun id sb hid=>by
   obtain ⟨hia,sb0,h2,rfl,h4⟩:=hpre id sb hid
   obtain ⟨hA,c,b1,b2,b3⟩:=h.store _ sb0 h2
   refine ⟨?_,c,by rw [h4];exact b1,b2,vA hf b3⟩
   have hA:(if id=b then a else id)<s.nxt:=hA
   show id<m
   by_cases hib:id=b
   ·omega
   ·rw [if_neg hib] at hA;omega
  names:=fun id c hid=>by
   have hid:(if id=b then ρ a else if id=a then none else ρ id)=some c:=hid
   show id<m/\_
   by_cases hib:id=b
   ·rw [if_pos hib] at hid
    exact ⟨by omega,(h.names a c hid).2⟩
   ·rw [if_neg hib] at hid
    by_cases hia:id=a
    ·rw [if_pos hia] at hid;cases hid
    ·rw [if_neg hia] at hid
     have:=h.names id c hid
     exact ⟨dm this.1 hm,this.2⟩
  inj:=fun i j c hi hj h1 h2=>by
   obtain ⟨si,hsi⟩:=db.1 hi
   obtain ⟨sj,hsj⟩:=db.1 hj
   obtain ⟨a1,s1,l1,_,r1⟩:=hpre i si hsi
   obtain ⟨a2,s2,l2,_,r2⟩:=hpre j sj hsj
   rw [r1] at h1;rw [r2] at h2
   have:=h.inj _ _ c (by rw [l1];rfl) (by rw [l2];rfl) h1 h2
   by_cases hib:i=b<;>by_cases hjb:j=b
   ·rw [hib,hjb]
   ·rw [if_pos hib,if_neg hjb] at this;exact absurd this.symm a2
   ·rw [if_neg hib,if_pos hjb] at this;exact absurd this a1
   ·rw [if_neg hib,if_neg hjb] at this;exact this
  base:=fun id hid=>dm (h.base id hid) hm
  full:=h.full
  grow:=h.grow
  old:=fun p c hp=>by
   have:=h.old p c hp
   refine ⟨this.1, ?_⟩
   show (if _ then _ else if _ then _ else _)=_
   rw [if_neg (by omega),if_neg (by omega)];exact this.2
  tback:=h.tback
  tkeep:=fun c hc hT=>(h.tkeep c hc hT).imp (fun x=>x) fun ⟨q,q1,q2,q3,q4⟩=>⟨q,q1,q2,hlow q q2 q3,q4⟩
  fresh:=fun id c h2 h3 h4=>by
   obtain ⟨sb,hsb⟩:=db.1 h2
   obtain ⟨a1,s1,l1,_,r1⟩:=hpre id sb hsb
   rw [r1] at h4
   refine (h.fresh _ c (by rw [l1];rfl) (by by_cases hib:id=b;rw [if_pos hib];exact ha;rw [if_neg hib];exact h3) h4).imp (fun x=>x) fun ⟨q,q1,q2,q3,q4⟩=>⟨q,q1,q2,hlow q q2 q3,q4⟩
  inv:=h.inv}
theorem TD{P:Program}{n a b m:Nat}{s:St}(hab:a≠b)(ha:a<n)(hb:n<=b)(hal:(aO s.store a).isSome)(hm:s.nxt<=m)(hbm:b<m):
  GZ P n s ⟨OL (mvF a b) s.tmps,zQ (mvF a b) s.store,m,kT s.dirty [a],s.nt⟩:=by
 rintro B act w rfl ⟨h1,ρ,T,h⟩
 let ρ2:aL:=fun i=>if i=b then ρ a else ρ i
 have hf: ∀i j c,mvF a b i=some j->ρ i=some c->ρ2 j=some c:=by
  intro i j c hi hc
  unfold mvF at hi
  by_cases hia:i=a
  ·subst hia
   rw [fb] at hi
   cases hi
   show (if _ then _ else _)=_
   rw [if_pos rfl];exact hc
  ·rw [show Nat.beq i a=false by rw [cf];intro e;exact hia (ai e)] at hi
   simp only [ap] at hi
   by_cases hib:i=b
   ·rw [hib,fb] at hi;cases hi
   ·rw [show Nat.beq i b=false by rw [cf];intro e;exact hib (ai e)] at hi
    cases hi
    show (if _ then _ else _)=_
    rw [if_neg hib];exact hc
 have hlow: ∀q,q<B.n->aO s.store q=none->aO (zQ (mvF a b) s.store) q=none:=by
  intro q hq hn
  rw [pL hab,if_neg (fun e=>by subst e;rw [hn] at hal;cases hal),if_neg (by omega),hn];rfl
 have hdeadA:aO (zQ (mvF a b) s.store) a=none:=by rw [pL hab,if_pos rfl]
 have hD: ∀p,p∈s.dirty->p∈kT s.dirty [a]:=fun p hp=>(fY _ _ _).2 (.inl hp)
 have hDa:a∈kT s.dirty [a]:=(fY _ _ _).2 (.inr (by simp))
 have hBa: ∀c,ρ a=some c->B.ρ a=some c:=fun c hc=>by
  obtain ⟨c',hc'⟩:=h.full a ha
  have:=(h.old a c' hc').2
  rw [hc] at this;cases this
  exact hc'
 have hpre: ∀id sb,aO (zQ (mvF a b) s.store) id=some sb->id≠a/\ ∃sb0,aO s.store (if id=b then a else id)=some sb0/\sb=mB (mvF a b) sb0/\ρ2 id=ρ (if id=b then a else id):=by
  intro id sb hid
  rw [pL hab] at hid
  by_cases hia:id=a
  ·rw [if_pos hia] at hid;cases hid
  ·rw [if_neg hia] at hid
   refine ⟨hia, ?_⟩
   have hρ2:ρ2 id=ρ (if id=b then a else id):=by
    show (if _ then _ else _)=_
    by_cases hib:id=b
    ·rw [if_pos hib,if_pos hib]
    ·rw [if_neg hib,if_neg hib]
   by_cases hib:id=b
   ·rw [if_pos hib] at hid hρ2|-
    obtain ⟨sb0,h2,h3⟩:=Option.map_eq_some_iff.1 hid
    exact ⟨sb0,h2,h3.symm,hρ2⟩
   ·rw [if_neg hib] at hid hρ2|-
    obtain ⟨sb0,h2,h3⟩:=Option.map_eq_some_iff.1 hid
    exact ⟨sb0,h2,h3.symm,hρ2⟩
 refine ⟨fu h1 hm,ρ2,T, ?_⟩
 exact {
  defers:=h.defers
  size:=h.size
  tmps:=fun t=>by rw [zB];exact tS hf _ _ (h.tmps t)
  store:=fun id sb hid=>by
   obtain ⟨hia,sb0,h2,rfl,h4⟩:=hpre id sb hid
   obtain ⟨hA,c,b1,b2,b3⟩:=h.store _ sb0 h2
   refine ⟨?_,c,by rw [h4];exact b1,b2,vA hf b3⟩
   have hA:(if id=b then a else id)<s.nxt:=hA
   show id<m
   by_cases hib:id=b
   ·omega
   ·rw [if_neg hib] at hA;omega
  names:=fun id c hid=>by
   have hid:(if id=b then ρ a else ρ id)=some c:=hid
   show id<m/\_
   by_cases hib:id=b
   ·rw [if_pos hib] at hid
    exact ⟨by omega,(h.names a c hid).2⟩
   ·rw [if_neg hib] at hid
    have:=h.names id c hid
    exact ⟨dm this.1 hm,this.2⟩
  inj:=fun i j c hi hj h1 h2=>by
   obtain ⟨si,hsi⟩:=db.1 hi
   obtain ⟨sj,hsj⟩:=db.1 hj
   obtain ⟨a1,s1,l1,_,r1⟩:=hpre i si hsi
   obtain ⟨a2,s2,l2,_,r2⟩:=hpre j sj hsj
   rw [r1] at h1;rw [r2] at h2
   have:=h.inj _ _ c (by rw [l1];rfl) (by rw [l2];rfl) h1 h2
   by_cases hib:i=b<;>by_cases hjb:j=b
   ·rw [hib,hjb]
   ·rw [if_pos hib,if_neg hjb] at this;exact absurd this.symm a2
   ·rw [if_neg hib,if_pos hjb] at this;exact absurd this a1
   ·rw [if_neg hib,if_neg hjb] at this;exact this
  base:=fun id hid=>dm (h.base id hid) hm
  full:=h.full
  grow:=h.grow.mono fun c _ ⟨p,p1,p2⟩=>⟨p,hD p p1,p2⟩
  old:=fun p c hp=>by
   have:=h.old p c hp
   refine ⟨this.1, ?_⟩
   show (if _ then _ else _)=_
   rw [if_neg (by omega)];exact this.2
  tback:=h.tback
  tkeep:=fun c hc hT=>(h.tkeep c hc hT).imp (fun x=>x) fun ⟨q,q1,q2,q3,q4⟩=>⟨q,hD q q1,q2,hlow q q2 q3,q4⟩
  fresh:=fun id c h2 h3 h4=>by
   obtain ⟨sb,hsb⟩:=db.1 h2
   obtain ⟨a1,s1,l1,_,r1⟩:=hpre id sb hsb
   rw [r1] at h4
   by_cases hib:id=b
   ·rw [if_pos hib] at h4
    exact .inr ⟨a,hDa,ha,hdeadA,hBa c h4⟩
   ·rw [if_neg hib] at h4 l1
    exact (h.fresh id c (by rw [l1];rfl) h3 h4).imp (fun x=>x) fun ⟨q,q1,q2,q3,q4⟩=>⟨q,hD q q1,q2,hlow q q2 q3,q4⟩
  inv:=h.inv}
theorem vB{P:Program}{n:Nat}{v:SV}{s:St}:GZ P n s (GI v s):=by
 intro B act w hB hn
 have hgo: ∀(b:Nat) (e:TypeId) (cs:List SV) (st len:Nat),aO s.store b=some (.lst e cs)->ids.idsL cs=[]->cs.length=len*st->
   Now B ⟨s.tmps,(b,some (.row e st len (fun i=>cut cs (i*st) st)))::s.store,s.nxt,s.dirty,s.nt⟩ act w:=by
  intro b e cs st len hl hf hlen
  obtain ⟨h1,ρ,T,h⟩:=hn
  have hlook: ∀id,aO ((b,some (SB.row e st len (fun i=>cut cs (i*st) st)))::s.store) id=if id=b then some (SB.row e st len (fun i=>cut cs (i*st) st)) else aO s.store id:=by
   intro id
   simp only [aO]
   by_cases hid:id=b
   ·subst hid;simp
   ·rw [if_neg hid,show Nat.beq b id=false by rw [cf];intro e;exact hid (ai e).symm];rfl
  have hsome: ∀id,(aO ((b,some (SB.row e st len (fun i=>cut cs (i*st) st)))::s.store) id).isSome->(aO s.store id).isSome:=by
   intro id hid
   rw [hlook] at hid
   by_cases hb:id=b
   ·rw [hb,hl];rfl
   ·rw [if_neg hb] at hid;exact hid
  have hnone: ∀id,aO s.store id=none->aO ((b,some (SB.row e st len (fun i=>cut cs (i*st) st)))::s.store) id=none:=by
   intro id hid
   rw [hlook,if_neg];·exact hid
   rintro rfl;rw [hl] at hid;cases hid
  refine ⟨h1,ρ,T,{h with
   store:=fun id sb hid=> ?_
   inj:=fun i j c hi hj h1 h2=>h.inj i j c (hsome i hi) (hsome j hj) h1 h2
   tkeep:=fun c hc hT=>(h.tkeep c hc hT).imp (fun x=>x) fun ⟨q,q1,q2,q3,q4⟩=>⟨q,q1,q2,hnone q q3,q4⟩
   fresh:=fun id c h2 h3 h4=>(h.fresh id c (hsome id h2) h3 h4).imp (fun x=>x) fun ⟨q,q1,q2,q3,q4⟩=>⟨q,q1,q2,hnone q q3,q4⟩}⟩
  rw [hlook] at hid
  by_cases hb:id=b
  ·rw [if_pos hb] at hid
   cases hid
   subst hb
   obtain ⟨hA,c,b1,b2,b3⟩:=h.store id _ hl
   exact ⟨hA,c,b1,b2,qB hf hlen b3⟩
  ·rw [if_neg hb] at hid
   exact h.store id sb hid
 unfold GI aCp
 split
 ·rename_i b st len
  split
  ·rename_i e cs hl
   cases hc:(ids.idsL cs).isEmpty&&Nat.beq cs.length (len*st) with
   |false=>exact hn
   |true=>
    simp only [af,gl] at hc
    exact hgo b e cs st len hl hc.1 (ai hc.2)
  ·exact hn
 ·exact hn
theorem FS{P:Program}{n t:Nat}{s:St}:GZ P n s (aDl t s):=vB
theorem nE{P:Program}{n0:Nat}: ∀(mv:List (Nat×Nat)) {s s':St},BT n0 mv s=some s'->GZ P n0 s s'
 | [],s,s',h=>by cases h;exact fun _ _ _ _ h=>h
 |(t,b)::r,s,s',h=>by
  simp only [BT] at h
  split at h
  ·exact nE r h
  ·rename_i a _
   cases hab:Nat.beq a b with
   |true=>rw [hab] at h;exact fun B act w hB hn=>nE r h B act w hB (FS B act w hB hn)
   |false=>
    rw [hab] at h
    simp only [ap] at h
    cases hc:Nat.ble n0 a&&Nat.ble n0 b with
    |false=>rw [hc] at h;cases h
    |true=>
     rw [hc] at h
     simp only [ar] at h
     simp only [af] at hc
     have hne:a≠b:=by rintro rfl;rw [fb] at hab;cases hab
     intro B act w hB hn
     refine nE r h B act w hB (FS B act w hB (VY hne (cd hc.1) (cd hc.2) ?_ ?_ B act w hB hn))
     ·cases hx:Nat.ble s.nxt b with
      |true=>exact fu (cd hx) (Nat.le_succ _)
      |false=>exact av _
     ·cases hx:Nat.ble s.nxt b with
      |true=>exact Nat.lt_succ_self _
      |false=>
       rw [cf] at hx
       have: ¬s.nxt<=b:=fun e=>hx (Nat.ble_eq_true_of_le e)
       simp only [ap]
       omega
theorem oA{P:Program}{n0:Nat}: ∀(mv:List ((Nat×List Nat)×Nat)) {s s':St},yI n0 mv s=some s'->GZ P n0 s s'
 | [],s,s',h=>by cases h;exact fun _ _ _ _ h=>h
 |((t,p),b)::r,s,s',h=>by
  simp only [yI] at h
  split at h
  ·exact oA r h
  ·rename_i a _
   cases hab:Nat.beq a b with
   |true=>rw [hab] at h;exact fun B act w hB hn=>oA r h B act w hB (vB B act w hB hn)
   |false=>
    rw [hab] at h
    simp only [ap] at h
    cases hc:Nat.ble n0 b&&(Nat.ble n0 a||(aO s.store a).isSome) with
    |false=>rw [hc] at h;cases h
    |true=>
     rw [hc] at h
     simp only [ar] at h
     simp only [af,Bool.or_eq_true] at hc
     have hne:a≠b:=by rintro rfl;rw [fb] at hab;cases hab
     have hm:s.nxt<=(bif Nat.ble s.nxt b then b+1 else s.nxt)/\b<(bif Nat.ble s.nxt b then b+1 else s.nxt):=by
      cases hx:Nat.ble s.nxt b with
      |true=>exact ⟨fu (cd hx) (Nat.le_succ _),Nat.lt_succ_self _⟩
      |false=>
       rw [cf] at hx
       have: ¬s.nxt<=b:=fun e=>hx (Nat.ble_eq_true_of_le e)
       simp only [ap]
       omega
     intro B act w hB hn
     refine oA r h B act w hB (vB B act w hB ?_)
     cases hna:Nat.ble n0 a with
     |true=>exact VY hne (cd hna) (cd hc.1) hm.1 hm.2 B act w hB hn
     |false=>
      rw [hna] at hc
      have hlt:a<n0:=by
       rw [cf] at hna
       exact Nat.not_le.1 fun e=>hna (Nat.ble_eq_true_of_le e)
      exact TD hne hlt (cd hc.1) (hc.2.resolve_left (by simp)) hm.1 hm.2 B act w hB hn
theorem rK{P:Program}{n0:Nat}{R:eI}{s s':St}(h:u3 n0 R s=some s'):GZ P n0 s s':=by
 unfold u3 at h
 cases hc:(Nat.ble n0 R.m&&aEB R.d s.dirty&&GH R.m (GE s.tmps R.ts)&&A9 R.m (D8 s.store R.bs)) with
 |false=>rw [hc] at h;cases h
 |true=>
  rw [hc] at h
  simp only [ar,an] at h
  subst h
  simp only [af] at hc
  obtain ⟨⟨⟨h1,h3⟩,h4⟩,h5⟩:=hc
  exact aGW (cd h1) (V2 h3) rfl (P5 h4) (GF h5)
theorem aY{P:Program}(n0:Nat): ∀R:List (Nat×eI),vG P n0 (aA R n0)
 | [],blk,s,s',h=>by cases h;exact fun _ _ _ _ h=>h
 |(b,k)::r,blk,s,s',h=>by
  simp only [aA] at h
  cases hb:Nat.beq b blk with
  |true=>
   rw [hb] at h
   simp only [ar] at h
   split at h
   ·rename_i s1 hs1
    exact fun B a w hB hn=>rK h B a w hB (nE _ hs1 B a w hB hn)
   ·cases h
  |false=>rw [hb] at h;exact aY n0 r blk s s' h
theorem tR{P:Program}(n0:Nat): ∀R:List (Nat×eI×List ((Nat×List Nat)×Nat)),vG P n0 (cM R n0)
 | [],blk,s,s',h=>by cases h;exact fun _ _ _ _ h=>h
 |(b,k,m)::r,blk,s,s',h=>by
  simp only [cM] at h
  cases hb:Nat.beq b blk with
  |true=>
   rw [hb] at h
   simp only [ar] at h
   split at h
   ·rename_i s1 hs1
    split at h
    ·rename_i s2 hs2
     exact fun B a w hB hn=>rK h B a w hB (oA _ hs2 B a w hB (nE _ hs1 B a w hB hn))
    ·cases h
   ·cases h
  |false=>rw [hb] at h;exact tR n0 r blk s s' h
def aF(env:Env)(W:Nat->St->Option St)(fn:Func)(path:List Nat)(blk:Nat)(K:Ex->St->Prop)(s:St):Prop:=
 fA env W blk (tA (LN fn) (path++[0])) (fun e=>wk (W blk) (K e)) s
def aB(env:Env)(W:Nat->St->Option St)(fn:Func)(path:List Nat)(n0:Nat)(K:KC):Ex->St->Prop:=
 UD env W 1000000 (LN fn) path (aMJ env fn n0 K)
def aV(env:Env)(W:Nat->St->Option St)(fn:Func)(path:List Nat)(blk n0:Nat)(K:KC):Nat->St->Prop:=
 iter (aF env W fn path blk) (aB env W fn path n0 K)
theorem dP{env:Env}{W:Nat->St->Option St}{fn:Func}{path:List Nat}{blk n0:Nat}{K:KC}{n:Nat}{s:St}:
  aV env W fn path blk n0 K (n+1) s=aF env W fn path blk (fun e s=>match e with
   | .normal=>aV env W fn path blk n0 K n s
   |e=>aB env W fn path n0 K e s) s:=rfl
variable {P:Program}
mutual
def ok :SV->Prop
 | .int k n=>k.min<=n/\n<=k.max
 | .str s=>s.size<9223372036854775808
 | .rptr cs=>okL cs
 | .agg cs=>okL cs
 | .tup cs=>okL cs
 | .arr _ _ len _=>len<9223372036854775808
 | .own _ _ _ len=>len<9223372036854775808
 | .ro len _ get=>len<9223372036854775808/\ ∀i,i<len->okL (get i)
 | .iface _ x=>ok x
 |_=>True
def okL :List SV->Prop
 | []=>True
 |a::l=>ok a/\okL l
end
def okB :SB->Prop
 | .cells _ cs=>okL cs
 | .lst _ cs=>okL cs
 | .row _ _ len g=> ∀i,i<len->okL (g i)
 | .loop _ _ _ _ _ _=>True
 | .iter s _=>s.size<9223372036854775808
def okS :List (Option SB)->Prop
 | []=>True
 |some b::l=>okB b/\okS l
 |none::l=>okS l
section
variable {T:Nat->Prop} {w:World}
mutual
theorem SU{ρ:aL}: ∀(a:SV) (v:Value),rel ρ T w a v->ok a
 | .junk,_,_=>trivial
 | .int _ _,_,⟨_,h⟩=>h
 | .bool _,_,_=>trivial
 | .str _,_,⟨_,h⟩=>h
 | .nilp,_,_=>trivial
 | .ptr _ _,_,_=>trivial
 | .eptr _ _ _ _,_,_=>trivial
 | .rptr cs,_,⟨b,o,_,_,_,h⟩=>FQ cs b o h
 | .fn _ _ _,_,_=>trivial
 | .nilfn,_,_=>trivial
 | .agg cs,_,⟨_,_,h⟩=>tB cs _ h
 | .tup cs,_,⟨_,_,h⟩=>tB cs _ h
 | .nils,_,_=>trivial
 | .emp,_,_=>trivial
 | .arr _ _ _ _,_,⟨_,h⟩=>h
 | .own _ _ _ _,_,⟨_,_,_,_,h1,h2,_⟩=>Nat.lt_of_le_of_lt h1 h2
 | .ro len st g,_,⟨_,_,_,h1,h2⟩=>⟨h1.2.1,fun i hi=>by
   obtain ⟨b,off,_,_,_,h⟩:=h2 (Nat.lt_of_le_of_lt (cn _) hi)
   exact FQ (g i) _ _ (h i hi)⟩
 | .nilI,_,_=>trivial
 | .iface _ x,_,⟨y,_,h⟩=>SU x y h
 | .yld _,_,_=>trivial
theorem tB{ρ:aL}: ∀(l:List SV) (m:List Value),aX ρ T w l m->okL l
 | [],_,_=>trivial
 |a::l,_,⟨v,r,_,h,h'⟩=>⟨SU a v h,tB l r h'⟩
theorem FQ : ∀(l:List SV) (b o:Nat),fJ T w l b o->okL l
 | [],_,_,_=>trivial
 |a::l,b,o,⟨⟨v,_,h⟩,h'⟩=>⟨SU a v h,FQ l b (o+1) h'⟩
end
theorem aGa{ρ:aL}{sb:SB}{b:Nat}(h:fV ρ T w sb b):okB sb:=by
 cases sb with
 |cells e cs=>obtain ⟨_,_,h⟩:=h;exact tB _ _ h
 |lst e cs=>obtain ⟨_,_,m,_,_,h⟩:=h;exact tB _ _ h
 |row e st len g=>obtain ⟨_,_,_,h⟩:=h;exact fun i hi=>tB _ _ (h i hi)
 |loop tm nt ps as bd pend=>exact trivial
 |iter s pos=>obtain ⟨_,_,_,h⟩:=h;exact h
theorem RR : ∀(σ:List (Option SB)),(∀sb,some sb∈σ->okB sb)->okS σ
 | [],_=>trivial
 |some b::l,h=>⟨h b (bq ..),RR l fun sb hs=>h sb (bm _ hs)⟩
 |none::l,h=>RR l fun sb hs=>h sb (bm _ hs)
end
theorem pI {k:FuncId} {xs:List SV} {σ:List (Option SB)} {v:SV} {σ':List (Option SB)} {d:List Nat}
  (h:okL xs->okS σ->aE P k xs σ v σ' d):aE P k xs σ v σ' d:=by
 intro ρ T w vals h1 h2 h3 h4
 refine h (tB _ _ h1) (RR _ fun sb hs=> ?_) ρ T w vals h1 h2 h3 h4
 obtain ⟨p,hp,e⟩:=List.getElem_of_mem hs
 obtain ⟨sb',b,e1,_,_,e2⟩:=h2 p hp
 rw [be hp,e,an,an] at e1
 subst e1
 exact aGa e2
structure bT (P:Program) where
 G:FuncId->List SV->List (Option SB)->KC->Prop
 ok: ∀k xs σ,Sat P k xs σ (G k xs σ)
 dom:FuncId->Bool
def bT.none(P:Program):bT P:=⟨fun _ _ _ _=>False,fun _ _ _ _ h=>h.elim,fun _=>false⟩
def bT.add{P:Program}(B:bT P)(k:FuncId)(C:List SV->List (Option SB)->KC->Prop)(h: ∀xs σ,Sat P k xs σ (C xs σ)):bT P where
 G:=fun j xs σ K=>bif Nat.beq j k then C xs σ K else B.G j xs σ K
 ok:=fun j xs σ=>by
  cases hb:Nat.beq j k with
  |true=>rw [ai hb];simpa using h xs σ
  |false=>simpa using B.ok j xs σ
 dom:=fun j=>Nat.beq j k||B.dom j
abbrev Out :=Option (SV×List (Option SB)×List Nat)
def one(c:List SV->List (Option SB)->Out)(xs:List SV)(σ:List (Option SB))(K:KC):Prop:=
 match c xs σ with
 |some (v,σ',d)=>K v σ' d
 |none=>False
theorem aT{k:FuncId}{c:List SV->List (Option SB)->Out}(h: ∀xs σ v σ' d,c xs σ=some (v,σ',d)->aE P k xs σ v σ' d)(xs:List SV)(σ:List (Option SB)):Sat P k xs σ (one c xs σ):=by
 intro K hK
 unfold one at hK
 split at hK
 ·rename_i v σ' d hc
  exact ⟨v,σ',d,hK,h _ _ _ _ _ hc⟩
 ·exact hK.elim
def iU(c:List SV->List (Option SB)->Option (Bool×SV×List (Option SB)×List Nat))(xs:List SV)(σ:List (Option SB))(K:KC):Prop:=
 match c xs σ with
 |some (b,v,σ',d)=>match b with
  |true=>K v σ' d
  |false=>False
 |none=>False
theorem cE{k:FuncId}{c:List SV->List (Option SB)->Option (Bool×SV×List (Option SB)×List Nat)}(h: ∀xs σ v σ' d,c xs σ=some (true,v,σ',d)->aE P k xs σ v σ' d)(xs:List SV)(σ:List (Option SB)):Sat P k xs σ (iU c xs σ):=by
 intro K hK
 unfold iU at hK
 split at hK
 ·rename_i b v σ' d hc
  cases b
  ·exact hK.elim
  ·exact ⟨v,σ',d,hK,h _ _ _ _ _ hc⟩
 ·exact hK.elim
structure Tab (P:Program) where
 tt:TypeId->Option TI
 ft:FuncId->Option Func
 htt: ∀t ti,tt t=some ti->gJ P t ti
 hft: ∀k fn,ft k=some fn->P.funcs[k]? =some fn/\(fn.name== "runtime.NumGoroutine")=false
 mixed:P.follows .mixedOrders=true
def Tab.env{P:Program}(A:Tab P)(B:bT P)(unroll:Nat->Nat)(cut:Nat->Bool):Env:=
 {tt:=A.tt,ft:=A.ft,callee:=B.G,view:=fun _=>false,unroll:=unroll,cut:=cut}
theorem uD (A:Tab P) (B:bT P) {R:List (Nat×eI)} {unroll:Nat->Nat} {cut:Nat->Bool} {known:FuncId->Bool} {n:Nat} {k:FuncId} {xs:List SV} {σ:List (Option SB)} {v:SV} {σ':List (Option SB)} {d:List Nat}
  (h:okL xs->okS σ->calls (A.env B unroll cut) (aA R) known n k xs σ fun v' σ'' d'=>v'=v/\σ''=σ'/\d'=d):aE P k xs σ v σ' d:=by
 refine pI fun h1 h2=> ?_
 obtain ⟨v',σ'',d',⟨rfl,rfl,rfl⟩,hc⟩:=bS (env:=A.env B unroll cut) ⟨A.htt,B.ok⟩ A.mixed (fun n=>aY n R) A.hft n k xs σ _ (h h1 h2)
 exact hc
theorem nT {k:FuncId} {fn:Func} {e:Array Value->Sem Value} (hf:P.funcs[k]? =some fn) (hname:(fn.name== "runtime.NumGoroutine")=false) (hb:fn.body.isNone=true)
  (hn:Extern.findNext fn=none) (he:Extern.find fn=some e) {xs:List SV} {v:SV}
  (h: ∀(T:Nat->Prop) (w:World) (vals:Array Value),aX (fun _=>none) T w xs vals.toList-> ∃x,(e vals).run P w= .ok x w/\rel (fun _=>none) T w v x):aE P k xs [] v [] []:=by
 intro ρ T w vals h1 _ h3 h4
 have hρ:ρ=fun _=>none:=by
  funext p
  cases hp:ρ p with
  |none=>rfl
  |some b=>exact absurd (h4 p b hp).1 (dn _)
 subst hρ
 obtain ⟨x,hx,hr⟩:=h T w vals h1
 refine .inr ⟨x,w, ?_,fun _=>none,T,{
  names:=fun _ _ h=>h
  only:=fun _ _ h=>by cases h
  len:=av _
  val:=hr
  store:=fun p sb h=>by simp at h
  fresh:=fun _ _ _ h=>by cases h
  inj:=fun _ _ _ _ _ h=>by cases h
  dirty:=fun _ h=>by cases h
  grow:=bG.refl _ _
  tback:=fun _ _ h=>h
  below:=fun _ _ h=>by cases h
  tkeep:=fun _ _ h=> .inl h}⟩
 rw [run_callFunc_extern hf hname hb hn he,hx]
 rfl
def aDn :List SV->List (Option SB)->KC->Prop
 | [.int .u64 a,.int .u64 b,.int .u64 c],[],K=>If (decide (0<=c)&&decide (c<=1)) (K (.tup [.int .u64 ((a+b+c)%18446744073709551616),.int .u64 ((a+b+c)/18446744073709551616)]) [] [])
 |_,_,_=>False
def aFl :List SV->List (Option SB)->KC->Prop
 | [.int .u64 a,.int .u64 b,.int .u64 c],[],K=>If (decide (0<=c)&&decide (c<=1)) (K (.tup [.int .u64 ((a - b - c)%18446744073709551616),.int .u64 (bif decide (a<b+c) then 1 else 0)]) [] [])
 |_,_,_=>False
theorem If.get{c:Bool}{A:Prop}(h:If c A):c=true/\A:=by
 cases c
 ·exact h.elim
 ·exact ⟨rfl,h⟩
theorem GQ{ρ:aL}{T:Nat->Prop}{w:World}{x y z:SV}{vals:Array Value}(h:aX ρ T w [x,y,z] vals.toList): ∃a b c,vals= #[a,b,c]/\rel ρ T w x a/\rel ρ T w y b/\rel ρ T w z c:=by
 obtain ⟨a,r,h1,ha,b,s,h2,hb,c,t,h3,hc,h4⟩:=h
 cases h4
 subst h3;subst h2
 exact ⟨a,b,c,by rw [<- Array.toList_inj,h1],ha,hb,hc⟩
def aL1 :Array Value->Sem Value:=fun args=>do
 let (x,y,c)<- Extern.MathBitsCarry.three "Add64" args
 pure (Extern.MathBitsCarry.pair ((x+y+c)%Extern.MathBitsCarry.m64) ((x+y+c)/Extern.MathBitsCarry.m64))
def aMu :Array Value->Sem Value:=fun args=>do
 let (x,y,b)<- Extern.MathBitsCarry.three "Sub64" args
 pure (Extern.MathBitsCarry.pair ((x+Extern.MathBitsCarry.m64 - y - b)%Extern.MathBitsCarry.m64) (if x<y+b then 1 else 0))
theorem H6{w:World}(s:String){a b c:Int}(hc:c.toNat<=1):(Extern.MathBitsCarry.three s #[.int .u64 a,.int .u64 b,.int .u64 c]).run P w= .ok (a.toNat,b.toNat,c.toNat) w:=by
 show (do
  let c:=(<- asInt (.int .u64 c)).toNat
  if c>1 then unsupported (.noEntry ("extern/math/bits." ++s++ ": a carry that is neither 0 nor 1"))
  pure ((<- asInt (.int .u64 a)).toNat,(<- asInt (.int .u64 b)).toNat,c):Sem (Nat×Nat×Nat)).run P w=_
 simp only [asInt,asIntOf,Sem.run_bind,Sem.run_pure,Result.andThen_ok]
 rw [if_neg (by omega)]
 rfl
theorem Q9{ρ:aL}{T:Nat->Prop}{w:World}{m n:Nat}{a b:Int}(ha:a=(m:Int))(hb:b=(n:Int))(hm:m<18446744073709551616)(hn:n<18446744073709551616):
  rel ρ T w (.tup [.int .u64 a,.int .u64 b]) (Extern.MathBitsCarry.pair m n):=by
 subst ha;subst hb
 refine ⟨_,rfl,_,_,rfl,⟨rfl, ?_⟩,_,_,rfl,⟨rfl, ?_⟩,rfl⟩
 ·show (0:Int)<=_/\_<=(18446744073709551615:Int)
  omega
 ·show (0:Int)<=_/\_<=(18446744073709551615:Int)
  omega
theorem aAh {k:FuncId} {fn:Func} (hf:P.funcs[k]? =some fn) (hname:(fn.name== "runtime.NumGoroutine")=false) (hb:fn.body.isNone=true)
  (hn:Extern.findNext fn=none) (he:Extern.find fn=some aL1) (xs:List SV) (σ:List (Option SB)):Sat P k xs σ (aDn xs σ):=by
 intro K hK
 unfold aDn at hK
 split at hK
 ·rename_i a b c
  obtain ⟨hc,hK⟩:=If.get hK
  refine ⟨_,_,_,hK,nT hf hname hb hn he fun T w vals hv=> ?_⟩
  obtain ⟨_,_,_,rfl,⟨rfl,ha⟩,⟨rfl,hb⟩,⟨rfl,hc'⟩⟩:=GQ hv
  have ha':0<=a/\a<=18446744073709551615:=ha
  have hb':0<=b/\b<=18446744073709551615:=hb
  simp only [af,ak] at hc
  refine ⟨_,by rw [aL1,Sem.run_bind,H6 _ (by omega)];rfl,Q9 ?_ ?_ ?_ ?_⟩<;>unfold Extern.MathBitsCarry.m64<;>omega
 ·exact hK.elim
theorem YI {k:FuncId} {fn:Func} (hf:P.funcs[k]? =some fn) (hname:(fn.name== "runtime.NumGoroutine")=false) (hb:fn.body.isNone=true)
  (hn:Extern.findNext fn=none) (he:Extern.find fn=some aMu) (xs:List SV) (σ:List (Option SB)):Sat P k xs σ (aFl xs σ):=by
 intro K hK
 unfold aFl at hK
 split at hK
 ·rename_i a b c
  obtain ⟨hc,hK⟩:=If.get hK
  refine ⟨_,_,_,hK,nT hf hname hb hn he fun T w vals hv=> ?_⟩
  obtain ⟨_,_,_,rfl,⟨rfl,ha⟩,⟨rfl,hb⟩,⟨rfl,hc'⟩⟩:=GQ hv
  have ha':0<=a/\a<=18446744073709551615:=ha
  have hb':0<=b/\b<=18446744073709551615:=hb
  simp only [af,ak] at hc
  refine ⟨_,by rw [aMu,Sem.run_bind,H6 _ (by omega)];rfl,Q9 ?_ ?_ ?_ ?_⟩
  ·unfold Extern.MathBitsCarry.m64;omega
  ·by_cases h:a<b+c
   ·rw [if_pos (by omega),ao h];rfl
   ·rw [if_neg (by omega),aj h];rfl
  ·unfold Extern.MathBitsCarry.m64;omega
  ·split<;>omega
 ·exact hK.elim
end Go.Se
