import Derived.Test.YtghnfjfkjhbgdaaGreatDoorZD
namespace Go.Proofs.YtghnfjfkjhbgdaaGreatDoor
open Go.Se
set_option maxRecDepth 100000
theorem aEQ(s:ByteArray)(h0:0<s.size)(h1:s.size<=1099511627776):aD Tryz.prog 60 [.ptr 0 0,.str s] [some (.cells sbT [.nilp,.nils])] (.tup [.int .i64 s.size,.nilI]) [some (.cells sbT [.ptr 0 0,.own 1 0 1 s.size]),some (.row 5 1 s.size (tG (aA s)))] [0]:=
 aW n1 3 fun _ _ K hK=>by
  rw [aE2,RA]
  exact ⟨fun i _=>⟨rfl,rfl⟩,Br.of (fun _=>Br.of (fun _=>hK) fun f=>absurd h0 (of_decide_eq_false f)) fun f=>absurd f (by simp only [Bool.true_and,Bool.and_eq_false_iff,decide_eq_false_iff_not];omega)⟩
theorem aDN(s:ByteArray)(l:List Int)(h1:l.length+s.size<=1099511627776):aD Tryz.prog 60 [.ptr 0 0,.str s] [some (.cells sbT [.ptr 0 0,.own 1 0 1 l.length]),some (.row 5 1 l.length (tG l))] (.tup [.int .i64 s.size,.nilI])
  [some (.cells sbT [.ptr 0 0,.own 2 0 1 (l++aA s).length]),none,some (.row 5 1 (l++aA s).length (tG (l++aA s)))] [0,1]:=
 aW n1 3 fun _ _ K hK=>by
  rw [aD3,RA,aCX]
  rw [List.length_append,bV] at hK
  exact ⟨fun i _=>⟨rfl,rfl⟩,Br.of (fun _=>hK) fun f=>absurd f (by simp;omega)⟩
def cWs :List SV->List (Option SB)->KC->Prop
 | [.ptr 0 0,.str s],[some (.cells 49 [.nilp,.nils])],K=>(0<s.size/\s.size<=1099511627776)/\K (.tup [.int .i64 s.size,.nilI]) [some (.cells 49 [.ptr 0 0,.own 1 0 1 s.size]),some (.row 5 1 s.size (tG (aA s)))] [0]
 | [.ptr 0 0,.str s],[some (.cells 49 [.ptr 0 0,.own 1 0 1 n]),some (.row 5 1 n' g)],K=> ∃l:List Int,((n=l.length/\n'=l.length/\g=tG l)/\l.length+s.size<=1099511627776)/\
   K (.tup [.int .i64 s.size,.nilI]) [some (.cells 49 [.ptr 0 0,.own 2 0 1 (l++aA s).length]),none,some (.row 5 1 (l++aA s).length (tG (l++aA s)))] [0,1]
 |_,_,_=>False
theorem aFK(xs:List SV)(σ:List (Option SB)):Sat Tryz.prog 60 xs σ (cWs xs σ):=by
 intro K hK
 unfold cWs at hK
 split at hK
 case h_3=>exact hK.elim
 ·obtain ⟨⟨h0,h1⟩,hK⟩:=hK;exact ⟨_,_,_,hK,aEQ _ h0 h1⟩
 ·obtain ⟨l,⟨⟨rfl,rfl,rfl⟩,h1⟩,hK⟩:=hK;exact ⟨_,_,_,hK,aDN _ l h1⟩
noncomputable def n2 :bU Tryz.prog:=((n1).add 60 cWs aFK).add 61 cJn aD1
def muR :List (Nat×e9):=[(0,⟨[3,6,7,8],[0],[0,1,2,3,4],1,[(3,0)]⟩)]
noncomputable abbrev muE :Env:=gC muR (fun _=>0) n2 2
noncomputable abbrev muF :Func:=Tryz.f57
abbrev muP :List Nat:=[1,1,0,1,0]
def muS(n:Nat)(f:Nat->Int)(o:SV)(r:Option SB)(i:Int):St:=⟨[(3,o),(6,.ro n 1 (aM f)),(7,.int .i64 n),(8,.int .i64 i)],[(0,r)],1,[0,1,2,3,4],19⟩
theorem aA2(n:Nat)(f:Nat->Int)(K:KC):eL muR (fun _=>0) n2 3 57 [.ro n 1 (aM f)] [] K=
 (∃q_,bS muE (aB muR 0) muF muP 0 0 K q_ {tmps:=[(3,SV.nils),(6,SV.ro n 1 (aM f)),(7,SV.int .i64 (↑n:Int)),(8,SV.int .i64 0)],store:=[(0,none)],nxt:=1,dirty:=[0,1,2,3,4],nt:=19}):=by kernel_rfl
theorem FH(n:Nat)(f:Nat->Int)(i:Nat)(K:Ex->St->Prop):aF muE (aB muR 0) muF muP 0 K (muS n f .nils none i)=
 (Br (decide ((↑i:Int)<(↑n:Int))) (Br (decide (0<=(↑i:Int))&&decide ((↑i:Int)<(↑n:Int))) (K Ex.normal {tmps:=[(3,SV.own 0 0 1 1),(6,SV.ro n 1 (aM f)),(7,SV.int .i64 (↑n:Int)),(8,SV.int .i64 (IntKind.i64.wrap ((↑i:Int)+1)))],store:=[(0,some (SB.row 9 1 1 fun (i_1:Nat)=>cut [SV.str (bytesOf (aC (f (↑i:Int).toNat)))] (i_1*1) 1))],nxt:=1,dirty:=[0,1,2,3,4],nt:=19}) (False)) (K (Ex.exit 0) {tmps:=[(3,SV.nils),(6,SV.ro n 1 (aM f)),(7,SV.int .i64 (↑n:Int)),(8,SV.int .i64 (↑i:Int))],store:=[(0,none)],nxt:=1,dirty:=[0,1,2,3,4],nt:=19})):=by kernel_rfl
theorem FI(n:Nat)(f:Nat->Int)(m:Nat)(g:Nat->List SV)(i:Nat)(K:Ex->St->Prop):aF muE (aB muR 0) muF muP 0 K (muS n f (.own 0 0 1 m) (some (.row 9 1 m g)) i)=
 (Br (decide ((↑i:Int)<(↑n:Int))) (Br (decide (0<=(↑i:Int))&&decide ((↑i:Int)<(↑n:Int))) (Br (decide ((m+1)*16<=1099511627776)&&decide (m+1<9223372036854775808)&&decide (m=m)) (K Ex.normal {tmps:=[(3,SV.own 0 0 1 (m+1)),(6,SV.ro n 1 (aM f)),(7,SV.int .i64 (↑n:Int)),(8,SV.int .i64 (IntKind.i64.wrap ((↑i:Int)+1)))],store:=[(0,some (SB.row 9 1 (m+1) (bJ m [SV.str (bytesOf (aC (f (↑i:Int).toNat)))] g)))],nxt:=1,dirty:=[0,1,2,3,4],nt:=19}) (False)) (False)) (K (Ex.exit 0) {tmps:=[(3,SV.own 0 0 1 m),(6,SV.ro n 1 (aM f)),(7,SV.int .i64 (↑n:Int)),(8,SV.int .i64 (↑i:Int))],store:=[(0,some (SB.row 9 1 m g))],nxt:=1,dirty:=[0,1,2,3,4],nt:=19})):=by kernel_rfl
theorem SI(n:Nat)(f:Nat->Int)(i:Nat)(K:KC):aE muE (aB muR 0) muF muP 0 K (.exit 0) (muS n f .nils none i)=
 (K SV.nils [] []):=by kernel_rfl
theorem VX(n:Nat)(f:Nat->Int)(m:Nat)(g:Nat->List SV)(i:Nat)(K:KC):aE muE (aB muR 0) muF muP 0 K (.exit 0) (muS n f (.own 0 0 1 m) (some (.row 9 1 m g)) i)=
 (K (SV.own 0 0 1 m) [some (SB.row 9 1 m g)] []):=by kernel_rfl
theorem aDZ(t:TypeId)(a:Int)(K:KC):oA 3 n2 3 57 [.arr 0 0 1 1] [some (.cells t [.int .i64 a])] K=
 (K (SV.own 1 0 1 1) [some (SB.cells t [SV.int .i64 a]),some (SB.lst 9 [SV.str (bytesOf (aC a))])] []):=by kernel_rfl
theorem aFv(t:TypeId)(a b:Int)(K:KC):oA 4 n2 3 57 [.arr 0 0 2 2] [some (.cells t [.int .i64 a,.int .i64 b])] K=
 (K (SV.own 1 0 1 2) [some (SB.cells t [SV.int .i64 a,SV.int .i64 b]),some (SB.lst 9 [SV.str (bytesOf (aC a)),SV.str (bytesOf (aC b))])] []):=by kernel_rfl
theorem aD7(t:TypeId)(a:Int)(K:KC):oA 3 n2 3 20 [.arr 0 0 1 1] [some (.cells t [.int .i64 a])] K=
 (K (SV.own 1 0 1 1) [some (SB.cells t [SV.int .i64 a]),some (SB.lst 9 [SV.str (bytesOf (aJ a))])] []):=by kernel_rfl
theorem aEa(t:TypeId)(a b:Int)(K:KC):oA 4 n2 3 20 [.arr 0 0 2 2] [some (.cells t [.int .i64 a,.int .i64 b])] K=
 (K (SV.own 1 0 1 2) [some (SB.cells t [SV.int .i64 a,SV.int .i64 b]),some (SB.lst 9 [SV.str (bytesOf (aJ a)),SV.str (bytesOf (aJ b))])] []):=by kernel_rfl
end Go.Proofs.YtghnfjfkjhbgdaaGreatDoor
namespace Go.Se
variable {P:Program}
theorem yV {k:FuncId} {xs:List SV} {σ:List (Option SB)} {v:SV} {σ1 σ2:List (Option SB)} {d:List Nat} (hl:σ1.length=σ2.length) (hn: ∀p:Nat,σ1[p]? =some none↔σ2[p]? =some none)
  (h: ∀(p:Nat) (sb:SB),σ2[p]? =some (some sb)-> ∃sb1,σ1[p]? =some (some sb1)/\ ∀(ρ:aG) (T:Nat->Prop) (w:World) (b:Nat),eI ρ T w sb1 b->eI ρ T w sb b)
  (hc:aD P k xs σ v σ1 d):aD P k xs σ v σ2 d:=by
 intro ρ T w vals h1 h2 h3 h4
 refine (hc ρ T w vals h1 h2 h3 h4).mono fun x w' ⟨ρ',T',hd⟩=>⟨ρ',T',{
  names:=hd.names
  only:=hl▸hd.only
  len:=hl▸hd.len
  val:=hd.val
  store:=fun p sb hp=>by
   obtain ⟨sb1,e1,e2⟩:=h p sb hp
   obtain ⟨b,e3,e4,e5⟩:=hd.store p sb1 e1
   exact ⟨b,e3,e4,e2 _ _ _ _ e5⟩
  fresh:=fun p b hp hb=>by
   rcases hd.fresh p b hp hb with h|⟨q,h5,h6,h7⟩
   ·exact .inl h
   ·exact .inr ⟨q,h5,(hn q).1 h6,h7⟩
  inj:=hd.inj
  dirty:=hd.dirty
  grow:=hd.grow
  tback:=hd.tback
  below:=hd.below
  tkeep:=fun b hb hT=>by
   rcases hd.tkeep b hb hT with h|⟨q,h5,h6,h7⟩
   ·exact .inl h
   ·exact .inr ⟨q,h5,(hn q).1 h6,h7⟩}⟩
theorem wT{p:List (List Int)}{j:Nat}(h:j<p.length):aH p j=jJ p[j]:=dM h
theorem E1{ρ:aG}{T:Nat->Prop}{w:World}{e st n:Nat}{g g':Nat->List SV}{b:Nat}(h: ∀i,i<n->g i=g' i)(hr:eI ρ T w (.row e st n g) b):eI ρ T w (.row e st n g') b:=by
 obtain ⟨vs,r1,r2,r3⟩:=hr
 exact ⟨vs,r1,r2,fun i hi=>by rw [<- h i hi];exact r3 i hi⟩
theorem SO{ρ:aG}{T:Nat->Prop}{w:World}{e:Nat}{p:List (List Int)}{b n:Nat}(hn:n=p.length)(hr:eI ρ T w (.lst e (uD p)) b):eI ρ T w (.row e 1 n (aH p)) b:=by
 subst hn
 exact E1 (fun i hi=>by rw [EV p i hi,wT hi]) (oV (st:=1) (len:=p.length) (xJ p) (by unfold uD;simp) hr)
theorem SX{e id m n:Nat}{L p:List (List Int)}{g h:Nat->List SV}(hp:p≠[])(hm:m=L.length)(hn:n=p.length)(hg: ∀j (h:j<L.length),g j=jJ L[j])(hh: ∀j (x:j<p.length),h j=jJ p[j]):
  bZ e 1 id jJ (L++p) (.own id 0 1 (m+n)) (some (.row e 1 (m+n) (oH m g h))):=
 .inr ⟨oH m g h,by simp [hp],by rw [hm,hn];simp,by rw [hm,hn];simp,fun j hj=>by
  unfold oH
  by_cases c:j<m
  ·rw [show Nat.blt j m=true from Nat.ble_eq_true_of_le c]
   rw [List.getElem_append_left (by omega)]
   exact hg j (by omega)
  ·rw [show Nat.blt j m=false from Bool.eq_false_iff.2 fun x=>c (Nat.le_of_ble_eq_true x)]
   rw [List.length_append] at hj
   rw [List.getElem_append_right (by omega)]
   show h (j - m)=_
   subst hm
   exact hh (j - L.length) (by omega)⟩
theorem kW(f:Nat->Int)(a n:Nat):(fV f a n).length=n:=by unfold fV;simp
theorem kQ(f:Nat->Int)(a n:Nat):(fT f a n).length=n:=by unfold fT;simp
theorem fM(x y:Nat->Int): ∀(n a:Nat),(dD x y a n).length=2*n
 |0,_=>rfl
 |n+1,a=>by show (dD x y (a+1) n).length+1+1=_;rw [fM x y n];omega
theorem UI(f:Nat->Int)(a n:Nat):fV (fun i=>f (i+a)) 0 n=fV f a n:=by
 unfold fV
 rw [List.range'_eq_map_range,List.range'_eq_map_range,List.map_map,List.map_map]
 exact List.map_congr_left fun i _=>by show aC (f (0+i+a))=aC (f (a+i));rw [Nat.zero_add,Nat.add_comm]
theorem TR(f:Nat->Int)(a n:Nat):fT (fun i=>f (i+a)) 0 n=fT f a n:=by
 unfold fT
 rw [List.range'_eq_map_range,List.range'_eq_map_range,List.map_map,List.map_map]
 exact List.map_congr_left fun i _=>by show aJ (f (0+i+a))=aJ (f (a+i));rw [Nat.zero_add,Nat.add_comm]
theorem u2 {env:Env} {W:Nat->St->Option St} {fn:Func} {path:List Nat} {blk:Nat} {KK:Ex->St->Prop} {e:Nat} (F:Nat->List (List Int)) (S:SV->Option SB->Nat->St) (n:Nat) (h0:F 0=[])
  (hr: ∀i o b,i<n->bZ e 1 0 jJ (F i) o b-> ∀X:St->Prop,(∀o' b',bZ e 1 0 jJ (F (i+1)) o' b'->X (S o' b' (i+1)))->aF env W fn path blk (fQ X KK) (S o b i))
  (he: ∀o b,bZ e 1 0 jJ (F n) o b-> ∀X:St->Prop,aF env W fn path blk (fQ X KK) (S o b n)):
  iter (aF env W fn path blk) KK (n+1) (S .nils none 0):=
 iA (fun a:SV×Option SB×Nat=>S a.1 a.2.1 a.2.2) (fun a=>n - a.2.2) (fun a=>a.2.2<=n/\bZ e 1 0 jJ (F a.2.2) a.1 a.2.1) (fun ⟨o,b,i⟩ ⟨h1,h2⟩ X hX=>by
  simp only at h1 h2 hX|-
  by_cases h:i<n
  ·exact hr i o b h h2 X fun o' b' ht=>hX (o',b',i+1) ⟨h,ht⟩ (by show n - (i+1)<n - i;omega)
  ·obtain rfl:i=n:=by omega
   exact he o b h2 X) (n+1) (.nils,none,0) ⟨Nat.zero_le _,by rw [h0];exact kS⟩ (by show n - 0<n+1;omega)
theorem BC{a b:List Int}: ∀i:Nat,i<2->(aH [a,b] i).length=1/\(aH [a,b] i).all aV=true:=fun i hi=>by
 match i,hi with
 |0,_=>exact ⟨rfl,rfl⟩
 |1,_=>exact ⟨rfl,rfl⟩
theorem d7.cells{g:Nat->List SV}{p:List (List Int)}(h:d7 g p): ∀i,i<p.length->(g i).length=1/\(g i).all aV=true:=fun i hi=>by rw [h i hi];exact ⟨rfl,rfl⟩
theorem fO(p:List (List Int)):d7 (aH p) p:=fun _ h=>wT h
theorem sZ{w:List Int}{g:Nat->List SV}{p:List (List Int)}(h:d7 g p):d7 (oH 1 (fun i=>cut [.str (bytesOf w)] (i*1) 1) g) (w::p):=fun j hj=>by
 cases j with
 |zero=>rfl
 |succ j=>exact h j (by simpa using hj)
structure fH (w:List Int) (p:List (List Int)):Prop where
 ne:0<p.length
 inB:bB (lnW w p)
 len:(lnW w p).length<=1073741824
theorem fH.pos{w:List Int}{p:List (List Int)}(_:fH w p):0<(lnW w p).length:=by unfold lnW;rw [List.length_append];exact Nat.succ_pos _
theorem aAj(p:List (List Int)):p.length<=(iB p).length:=by rw [FP];omega
theorem fH.facts{w:List Int}{p:List (List Int)}(h:fH w p):aA (bytesOf (dF (w::p))++(⟨#[10]⟩:ByteArray))=lnW w p/\(dF (w::p)).length<=1099511627776/\1+p.length<=1073741824/\(dF (w::p)).length+1<=1099511627776:=by
 have e:lnW w p=dF (w::p)++[10]:=rfl
 have hl:=h.len
 rw [e,List.length_append] at hl
 have hl:(dF (w::p)).length+1<=1073741824:=hl
 have hp:=aAj p
 have hj:(dF (w::p)).length=w.length+(iB p).length:=List.length_append
 refine ⟨?_,by omega,by omega,by omega⟩
 rw [YE,cH (fun x hx=>h.inB x (by rw [e];exact List.mem_append_left _ hx))]
 rfl
def kT(l l0 w:List Int)(p:List (List Int)):Prop:=l=l0++lnW w p
def kJ(l l0 m:List Int):Prop:=l=l0++m
def aF0(fn:Func)(path:List Nat)(nt:Nat)(l:kD):SB:=
 match qV (HQ fn) path with
 | .rangeFunc _ ps a b=> .loop (nL l (lT a++lT b)) nt ps.toList a b .ready
 |_=> .cells 0 []
def WZ(a:Nat):Nat->kD
 |0=>[]
 |n+1=>(a+n,.junk)::WZ a n
def dZ(p:List (List Int)):Prop:= ∀x,x∈p->bB x/\x.length<=42
theorem AD : ∀{p:List (List Int)},dZ p->bB (iB p)/\(iB p).length<=43*p.length
 | [],_=>⟨fun x hx=>(by cases hx),Nat.le_refl _⟩
 |w::r,h=>by
  obtain ⟨h1,h2⟩:=AD (p:=r) fun x hx=>h x (List.mem_cons_of_mem _ hx)
  obtain ⟨h3,h4⟩:=h w (List.mem_cons_self ..)
  refine ⟨fun x hx=> ?_, ?_⟩
  ·rcases List.mem_cons.1 hx with rfl|hx
   ·decide
   ·rcases List.mem_append.1 hx with hx|hx
    ·exact h3 x hx
    ·exact h1 x hx
  ·show (w++iB r).length+1<=43*(r.length+1)
   rw [List.length_append];omega
theorem iH{w:List Int}{p:List (List Int)}(h:dZ p):(lnW w p).length<=w.length+43*p.length+1:=by
 have:=(AD h).2
 unfold lnW
 simp only [List.length_append,List.length_cons,List.length_nil];omega
theorem d8{w:List Int}{p:List (List Int)}(hw:bB w/\w.length<=100)(h:dZ p)(h0:0<p.length)(h1:p.length<=1000):fH w p where
 ne:=h0
 inB:=fun x hx=>by
  unfold lnW at hx
  rcases List.mem_append.1 hx with hx|hx
  ·rcases List.mem_append.1 hx with hx|hx
   ·exact hw.1 x hx
   ·exact (AD h).1 x hx
  ·rw [List.mem_singleton.1 hx];decide
 len:=by have:=iH (w:=w) h;omega
theorem B3(f:Nat->Int)(a n:Nat):dZ (fV f a n):=fun x hx=>by
 obtain ⟨i,_,rfl⟩:=List.mem_map.1 hx
 exact ⟨kK _,tJ _⟩
theorem GT(n:Int):(aJ n).length<=42:=by
 unfold aJ kN
 rw [List.length_append]
 have:=iV (bH n) 1
 cases decide (n<0)<;>simp<;>omega
theorem DA(f:Nat->Int)(a n:Nat):dZ (fT f a n):=fun x hx=>by
 obtain ⟨i,_,rfl⟩:=List.mem_map.1 hx
 exact ⟨oK _,GT _⟩
theorem mS(x y:Nat->Int): ∀(n a:Nat),dZ (dD x y a n)
 |0,_=>fun z hz=>by cases hz
 |n+1,a=>fun z hz=>by
  rcases List.mem_cons.1 hz with rfl|hz
  ·exact ⟨kK _,tJ _⟩
  ·rcases List.mem_cons.1 hz with rfl|hz
   ·exact ⟨kK _,tJ _⟩
   ·exact mS x y n (a+1) z hz
theorem iM{f:Nat->List Int}{B:Nat}(h: ∀i,(f i).length<=B): ∀(n a:Nat),(bL f a n).length<=n*B
 |0,_=>Nat.zero_le _
 |n+1,a=>by
  show (f a++bL f (a+1) n).length<=(n+1)*B
  have h1:=iM h n (a+1)
  have h2:=h a
  rw [List.length_append,Nat.add_mul,Nat.one_mul];omega
def xL(f:Nat->Int)(m r:Nat):List Int:=lnW gM (fV f (r*m) m)
def yA(f:Nat->Int)(m r:Nat):List Int:=lnW iS (fT f (r*m) m)
theorem A0{f:Nat->Int}{m r:Nat}(h:m<=65):(xL f m r).length<=5000:=by
 have:=iH (w:=gM) (B3 f (r*m) m)
 rw [kW,show gM.length=7 from rfl] at this
 unfold xL;omega
theorem BF{f:Nat->Int}{m r:Nat}(h:m<=65):(yA f m r).length<=5000:=by
 have:=iH (w:=iS) (DA f (r*m) m)
 rw [kQ,show iS.length=6 from rfl] at this
 unfold yA;omega
theorem cD{w:List Int}(h:(w.all (fun x=>decide (0<=x)&&decide (x<=255))&&decide (w.length<=100))=true):bB w/\w.length<=100:=by
 simp only [Bool.and_eq_true,List.all_eq_true,decide_eq_true_eq] at h
 exact ⟨fun x hx=>h.1 x hx,h.2⟩
theorem dN :dZ []:=fun x hx=>by cases hx
theorem aL{x:List Int}{p:List (List Int)}(h:bB x/\x.length<=42)(hp:dZ p):dZ (x::p):=fun y hy=>by
 rcases List.mem_cons.1 hy with rfl|hy
 ·exact h
 ·exact hp y hy
theorem fE(n:Int):bB (aC n)/\(aC n).length<=42:=⟨kK n,tJ n⟩
theorem uZ(n:Int):bB (aJ n)/\(aJ n).length<=42:=⟨oK n,GT n⟩
theorem XB(b:Bool):bB (onW b)/\(onW b).length<=42:=by cases b<;>exact ⟨(cD rfl).1,by decide⟩
theorem QN(b:Bool):bB (hC b)/\(hC b).length<=42:=by cases b<;>exact ⟨(cD rfl).1,by decide⟩
theorem aFy{a b c:List Int}:d7 (bJ 2 [.str (bytesOf c)] (aH [a,b])) [a,b,c]:=fun j hj=>by
 match j,hj with
 |0,_=>rfl
 |1,_=>rfl
 |2,_=>rfl
 |j+3,hj=>exact absurd hj (by simp)
theorem aFV{a b c d e:List Int}:d7 (bJ 4 [.str (bytesOf e)] (aH [a,b,c,d])) [a,b,c,d,e]:=fun j hj=>by
 match j,hj with
 |0,_=>rfl
 |1,_=>rfl
 |2,_=>rfl
 |3,_=>rfl
 |4,_=>rfl
 |j+5,hj=>exact absurd hj (by simp)
theorem lQ{l l0 w:List Int}{p:List (List Int)}(h:kT l l0 w p)(hp:dZ p):l.length<=l0.length+(w.length+43*p.length+1):=by
 have:=iH (w:=w) hp
 unfold kT at h
 rw [h,List.length_append];omega
structure aA4 (t:Trk):Prop where
 cols:1<=t.cols/\t.cols<=64
 rows:1<=t.rows/\t.rows<=64
 nh:t.nh=(t.rows+1).toNat*(t.cols+1).toNat
 ng:t.ng=t.rows.toNat*t.cols.toNat
 nk:t.nk<=8
def B0(t:Trk)(i:Nat):List Int:=lnW iO [aC (t.kg i),aC (t.kd i),onW (t.ko i)]
end Go.Se
namespace Go.Proofs.YtghnfjfkjhbgdaaGreatDoor
open Go.Se
set_option maxRecDepth 100000
def inS(n:Nat)(f:Nat->Int)(o:SV)(r:Option SB)(i:Int):St:=⟨[(3,o),(6,.ro n 1 (aM f)),(7,.int .i64 n),(8,.int .i64 i)],[(0,r)],1,[0,1,2,3,4],19⟩
noncomputable abbrev inF :Func:=Tryz.f20
theorem aAu(n:Nat)(f:Nat->Int)(K:KC):eL muR (fun _=>0) n2 3 20 [.ro n 1 (aM f)] [] K=
 (∃q_,bS muE (aB muR 0) inF muP 0 0 K q_ {tmps:=[(3,SV.nils),(6,SV.ro n 1 (aM f)),(7,SV.int .i64 (↑n:Int)),(8,SV.int .i64 0)],store:=[(0,none)],nxt:=1,dirty:=[0,1,2,3,4],nt:=19}):=by kernel_rfl
theorem FR(n:Nat)(f:Nat->Int)(i:Nat)(K:Ex->St->Prop):aF muE (aB muR 0) inF muP 0 K (inS n f .nils none i)=
 (Br (decide ((↑i:Int)<(↑n:Int))) (Br (decide (0<=(↑i:Int))&&decide ((↑i:Int)<(↑n:Int))) (K Ex.normal {tmps:=[(3,SV.own 0 0 1 1),(6,SV.ro n 1 (aM f)),(7,SV.int .i64 (↑n:Int)),(8,SV.int .i64 (IntKind.i64.wrap ((↑i:Int)+1)))],store:=[(0,some (SB.row 9 1 1 fun (i_1:Nat)=>cut [SV.str (bytesOf (aJ (f (↑i:Int).toNat)))] (i_1*1) 1))],nxt:=1,dirty:=[0,1,2,3,4],nt:=19}) (False)) (K (Ex.exit 0) {tmps:=[(3,SV.nils),(6,SV.ro n 1 (aM f)),(7,SV.int .i64 (↑n:Int)),(8,SV.int .i64 (↑i:Int))],store:=[(0,none)],nxt:=1,dirty:=[0,1,2,3,4],nt:=19})):=by kernel_rfl
theorem GL(n:Nat)(f:Nat->Int)(m:Nat)(g:Nat->List SV)(i:Nat)(K:Ex->St->Prop):aF muE (aB muR 0) inF muP 0 K (inS n f (.own 0 0 1 m) (some (.row 9 1 m g)) i)=
 (Br (decide ((↑i:Int)<(↑n:Int))) (Br (decide (0<=(↑i:Int))&&decide ((↑i:Int)<(↑n:Int))) (Br (decide ((m+1)*16<=1099511627776)&&decide (m+1<9223372036854775808)&&decide (m=m)) (K Ex.normal {tmps:=[(3,SV.own 0 0 1 (m+1)),(6,SV.ro n 1 (aM f)),(7,SV.int .i64 (↑n:Int)),(8,SV.int .i64 (IntKind.i64.wrap ((↑i:Int)+1)))],store:=[(0,some (SB.row 9 1 (m+1) (bJ m [SV.str (bytesOf (aJ (f (↑i:Int).toNat)))] g)))],nxt:=1,dirty:=[0,1,2,3,4],nt:=19}) (False)) (False)) (K (Ex.exit 0) {tmps:=[(3,SV.own 0 0 1 m),(6,SV.ro n 1 (aM f)),(7,SV.int .i64 (↑n:Int)),(8,SV.int .i64 (↑i:Int))],store:=[(0,some (SB.row 9 1 m g))],nxt:=1,dirty:=[0,1,2,3,4],nt:=19})):=by kernel_rfl
theorem TS(n:Nat)(f:Nat->Int)(i:Nat)(K:KC):aE muE (aB muR 0) inF muP 0 K (.exit 0) (inS n f .nils none i)=
 (K SV.nils [] []):=by kernel_rfl
theorem TC(n:Nat)(f:Nat->Int)(m:Nat)(g:Nat->List SV)(i:Nat)(K:KC):aE muE (aB muR 0) inF muP 0 K (.exit 0) (inS n f (.own 0 0 1 m) (some (.row 9 1 m g)) i)=
 (K (SV.own 0 0 1 m) [some (SB.row 9 1 m g)] []):=by kernel_rfl
theorem aEB(n:Nat)(f:Nat->Int)(hn:n<=1048576)(K:KC)(hK:nQ 9 1 jJ (fV f 0 n) K):eL muR (fun _=>0) n2 3 57 [.ro n 1 (aM f)] [] K:=by
 rw [aA2]
 refine ⟨n+1, ?_⟩
 show iter (aF muE (aB muR 0) muF muP 0) (aE muE (aB muR 0) muF muP 0 K) (n+1) (muS n f .nils none ((0:Nat):Int))
 refine u2 (e:=9) (fV f 0) (fun o b i=>muS n f o b i) n rfl (fun i o b hi ht X hX=> ?_) fun o b ht X=> ?_
 ·have hl:=kW f 0 i
  rcases ht with ⟨h0,rfl,rfl⟩|⟨g,hne,rfl,rfl,hg⟩
  ·rw [FH]
   refine Br.of (fun _=>Br.of (fun _=> ?_) fun c=>oO hi c) fun c=>nZ hi c
   rw [aQ hi (by omega)]
   exact hX _ _ (by rw [BU,h0];exact eU (by rw [Int.toNat_natCast,Nat.zero_add];rfl) rfl)
  ·rw [FI]
   refine Br.of (fun _=>Br.of (fun _=>Br.of (fun _=> ?_) fun c=>RC (m:=(fV f 0 i).length) (by omega) c) fun c=>oO hi c) fun c=>nZ hi c
   rw [aQ hi (by omega)]
   exact hX _ _ (by rw [BU];exact fR (by rw [Int.toNat_natCast,Nat.zero_add];rfl) rfl hg)
 ·rcases ht with ⟨h0,rfl,rfl⟩|⟨g,hne,rfl,rfl,hg⟩
  ·rw [FH]
   refine Br.of (fun c=>mZ c) fun _=> ?_
   show aE muE (aB muR 0) muF muP 0 K (.exit 0) (muS n f .nils none n)
   rw [SI];exact hK.1 h0
  ·rw [FI]
   refine Br.of (fun c=>mZ c) fun _=> ?_
   show aE muE (aB muR 0) muF muP 0 K (.exit 0) (muS n f (.own 0 0 1 _) (some (.row 9 1 _ g)) n)
   rw [VX];exact hK.2 g hne hg
theorem aEO(n:Nat)(f:Nat->Int)(hn:n<=1048576)(K:KC)(hK:nQ 9 1 jJ (fT f 0 n) K):eL muR (fun _=>0) n2 3 20 [.ro n 1 (aM f)] [] K:=by
 rw [aAu]
 refine ⟨n+1, ?_⟩
 show iter (aF muE (aB muR 0) inF muP 0) (aE muE (aB muR 0) inF muP 0 K) (n+1) (inS n f .nils none ((0:Nat):Int))
 refine u2 (e:=9) (fT f 0) (fun o b i=>inS n f o b i) n rfl (fun i o b hi ht X hX=> ?_) fun o b ht X=> ?_
 ·have hl:=kQ f 0 i
  rcases ht with ⟨h0,rfl,rfl⟩|⟨g,hne,rfl,rfl,hg⟩
  ·rw [FR]
   refine Br.of (fun _=>Br.of (fun _=> ?_) fun c=>oO hi c) fun c=>nZ hi c
   rw [aQ hi (by omega)]
   exact hX _ _ (by rw [DQ,h0];exact eU (by rw [Int.toNat_natCast,Nat.zero_add];rfl) rfl)
  ·rw [GL]
   refine Br.of (fun _=>Br.of (fun _=>Br.of (fun _=> ?_) fun c=>RC (m:=(fT f 0 i).length) (by omega) c) fun c=>oO hi c) fun c=>nZ hi c
   rw [aQ hi (by omega)]
   exact hX _ _ (by rw [DQ];exact fR (by rw [Int.toNat_natCast,Nat.zero_add];rfl) rfl hg)
 ·rcases ht with ⟨h0,rfl,rfl⟩|⟨g,hne,rfl,rfl,hg⟩
  ·rw [FR]
   refine Br.of (fun c=>mZ c) fun _=> ?_
   show aE muE (aB muR 0) inF muP 0 K (.exit 0) (inS n f .nils none n)
   rw [TS];exact hK.1 h0
  ·rw [GL]
   refine Br.of (fun c=>mZ c) fun _=> ?_
   show aE muE (aB muR 0) inF muP 0 K (.exit 0) (inS n f (.own 0 0 1 _) (some (.row 9 1 _ g)) n)
   rw [TC];exact hK.2 g hne hg
theorem aFj(n:Nat)(f:Nat->Int)(hn:n<=1048576):aD Tryz.prog 57 [.ro n 1 (aM f)] [] (.ro n 1 (aH (fV f 0 n))) [] []:=by
 have:=tS (d0:=[]) (R:=muR) (u:=fun _=>0) (B:=n2) (n:=3) (k:=57) (xs:=[.ro n 1 (aM f)]) (e:=9) (f:=jJ) (L:=fV f 0 n) (fun _=>rfl) fun _ K hK=>aEB n f hn K hK
 rw [kW] at this;exact this
theorem aFL(n:Nat)(f:Nat->Int)(hn:n<=1048576):aD Tryz.prog 20 [.ro n 1 (aM f)] [] (.ro n 1 (aH (fT f 0 n))) [] []:=by
 have:=tS (d0:=[]) (R:=muR) (u:=fun _=>0) (B:=n2) (n:=3) (k:=20) (xs:=[.ro n 1 (aM f)]) (e:=9) (f:=jJ) (L:=fT f 0 n) (fun _=>rfl) fun _ K hK=>aEO n f hn K hK
 rw [kQ] at this;exact this
theorem aB9{k:FuncId}{xs:List SV}{σ:List (Option SB)}{v:SV}{b:SB}{e n:Nat}{p:List (List Int)}(hn:n=p.length)(h:aD Tryz.prog k xs σ v [some b,some (.lst e (uD p))] []):aD Tryz.prog k xs σ v [some b,some (.row e 1 n (aH p))] []:=
 yV (σ1:=[some b,some (.lst e (uD p))]) rfl (fun q=>by match q with|0=>simp|1=>simp|q+2=>simp) (fun q sb hq=>by
  match q,hq with
  |0,hq=>cases hq;exact ⟨_,rfl,fun _ _ _ _ h=>h⟩
  |1,hq=>cases hq;exact ⟨_,rfl,fun _ _ _ _ h=>SO hn h⟩) h
theorem aFm(t:TypeId)(a:Int):aD Tryz.prog 57 [.arr 0 0 1 1] [some (.cells t [.int .i64 a])] (.own 1 0 1 1) [some (.cells t [.int .i64 a]),some (.row 9 1 1 (aH [aC a]))] []:=
 aB9 rfl (kE 3 n2 3 fun _ _ K hK=>by rw [aDZ];exact hK)
theorem aEL(t:TypeId)(a b:Int):aD Tryz.prog 57 [.arr 0 0 2 2] [some (.cells t [.int .i64 a,.int .i64 b])] (.own 1 0 1 2) [some (.cells t [.int .i64 a,.int .i64 b]),some (.row 9 1 2 (aH [aC a,aC b]))] []:=
 aB9 rfl (kE 4 n2 3 fun _ _ K hK=>by rw [aFv];exact hK)
theorem aE4(t:TypeId)(a:Int):aD Tryz.prog 20 [.arr 0 0 1 1] [some (.cells t [.int .i64 a])] (.own 1 0 1 1) [some (.cells t [.int .i64 a]),some (.row 9 1 1 (aH [aJ a]))] []:=
 aB9 rfl (kE 3 n2 3 fun _ _ K hK=>by rw [aD7];exact hK)
theorem aE5(t:TypeId)(a b:Int):aD Tryz.prog 20 [.arr 0 0 2 2] [some (.cells t [.int .i64 a,.int .i64 b])] (.own 1 0 1 2) [some (.cells t [.int .i64 a,.int .i64 b]),some (.row 9 1 2 (aH [aJ a,aJ b]))] []:=
 aB9 rfl (kE 4 n2 3 fun _ _ K hK=>by rw [aEa];exact hK)
def cNu(T:(Nat->Int)->Nat->List (List Int))(W:Int->List Int):List SV->List (Option SB)->KC->Prop
 | [.ro n 1 g],[],K=> ∃f:Nat->Int,(g=aM f/\n<=1048576)/\K (.ro n 1 (aH (T f n))) [] []
 | [.arr 0 0 1 1],[some (.cells t [.int .i64 a])],K=>K (.own 1 0 1 1) [some (.cells t [.int .i64 a]),some (.row 9 1 1 (aH [W a]))] []
 | [.arr 0 0 2 2],[some (.cells t [.int .i64 a,.int .i64 b])],K=>K (.own 1 0 1 2) [some (.cells t [.int .i64 a,.int .i64 b]),some (.row 9 1 2 (aH [W a,W b]))] []
 |_,_,_=>False
theorem aET(xs:List SV)(σ:List (Option SB)):Sat Tryz.prog 57 xs σ (cNu (fun f n=>fV f 0 n) aC xs σ):=by
 intro K hK
 unfold cNu at hK
 split at hK
 case h_4=>exact hK.elim
 ·obtain ⟨f,⟨rfl,h⟩,hK⟩:=hK;exact ⟨_,_,_,hK,aFj _ f h⟩
 ·exact ⟨_,_,_,hK,aFm _ _⟩
 ·exact ⟨_,_,_,hK,aEL _ _ _⟩
theorem aED(xs:List SV)(σ:List (Option SB)):Sat Tryz.prog 20 xs σ (cNu (fun f n=>fT f 0 n) aJ xs σ):=by
 intro K hK
 unfold cNu at hK
 split at hK
 case h_4=>exact hK.elim
 ·obtain ⟨f,⟨rfl,h⟩,hK⟩:=hK;exact ⟨_,_,_,hK,aFL _ f h⟩
 ·exact ⟨_,_,_,hK,aE4 _ _⟩
 ·exact ⟨_,_,_,hK,aE5 _ _ _⟩
noncomputable def n3 :bU Tryz.prog:=((n2).add 57 (cNu (fun f n=>fV f 0 n) aC) aET).add 20 (cNu (fun f n=>fT f 0 n) aJ) aED
end Go.Proofs.YtghnfjfkjhbgdaaGreatDoor
namespace Go.Proofs.YtghnfjfkjhbgdaaGreatDoor
open Go.Se
set_option maxRecDepth 100000
noncomputable abbrev plE :Env:=gC muR (fun _=>0) n3 2
noncomputable abbrev plF :Func:=Tryz.f18
def plS(n:Nat)(x y:Nat->Int)(o:SV)(r:Option SB)(i:Int):St:=⟨[(3,o),(6,.ro n 2 (bT x y)),(7,.int .i64 n),(8,.int .i64 i)],[(0,r)],1,[0,1,2,3,4],22⟩
theorem ZD(n:Nat)(x y:Nat->Int)(K:KC):eL muR (fun _=>0) n3 3 18 [.ro n 2 (bT x y)] [] K=
 (∃q_,bS plE (aB muR 0) plF muP 0 0 K q_ {tmps:=[(3,SV.nils),(6,SV.ro n 2 (bT x y)),(7,SV.int .i64 (↑n:Int)),(8,SV.int .i64 0)],store:=[(0,none)],nxt:=1,dirty:=[0,1,2,3,4],nt:=22}):=by kernel_rfl
theorem FN(n:Nat)(x y:Nat->Int)(i:Nat)(K:Ex->St->Prop):aF plE (aB muR 0) plF muP 0 K (plS n x y .nils none i)=
 (Br (decide ((↑i:Int)<(↑n:Int))) (Br (decide (0<=(↑i:Int))&&decide ((↑i:Int)<(↑n:Int))) ((∀(i_1:Nat),i_1<2->(aH [aC (x (↑i:Int).toNat),aC (y (↑i:Int).toNat)] i_1).length=1/\(aH [aC (x (↑i:Int).toNat),aC (y (↑i:Int).toNat)] i_1).all aV=true)/\(K Ex.normal {tmps:=[(3,SV.own 0 0 1 2),(6,SV.ro n 2 (bT x y)),(7,SV.int .i64 (↑n:Int)),(8,SV.int .i64 (IntKind.i64.wrap ((↑i:Int)+1)))],store:=[(0,some (SB.row 9 1 2 (aH [aC (x (↑i:Int).toNat),aC (y (↑i:Int).toNat)])))],nxt:=1,dirty:=[0,1,2,3,4],nt:=22})) (False)) (K (Ex.exit 0) {tmps:=[(3,SV.nils),(6,SV.ro n 2 (bT x y)),(7,SV.int .i64 (↑n:Int)),(8,SV.int .i64 (↑i:Int))],store:=[(0,none)],nxt:=1,dirty:=[0,1,2,3,4],nt:=22})):=by kernel_rfl
theorem EX(n:Nat)(x y:Nat->Int)(m:Nat)(g:Nat->List SV)(i:Nat)(K:Ex->St->Prop):aF plE (aB muR 0) plF muP 0 K (plS n x y (.own 0 0 1 m) (some (.row 9 1 m g)) i)=
 (Br (decide ((↑i:Int)<(↑n:Int))) (Br (decide (0<=(↑i:Int))&&decide ((↑i:Int)<(↑n:Int))) ((∀(i_1:Nat),i_1<2->(aH [aC (x (↑i:Int).toNat),aC (y (↑i:Int).toNat)] i_1).length=1/\(aH [aC (x (↑i:Int).toNat),aC (y (↑i:Int).toNat)] i_1).all aV=true)/\(Br (true&&decide (m=m)&&(decide ((m+2)*16<=1099511627776)&&decide (m+2<9223372036854775808))) (K Ex.normal {tmps:=[(3,SV.own 0 0 1 (m+2)),(6,SV.ro n 2 (bT x y)),(7,SV.int .i64 (↑n:Int)),(8,SV.int .i64 (IntKind.i64.wrap ((↑i:Int)+1)))],store:=[(0,some (SB.row 9 1 (m+2) (oH m g (aH [aC (x (↑i:Int).toNat),aC (y (↑i:Int).toNat)]))))],nxt:=1,dirty:=[0,1,2,3,4],nt:=22}) (False))) (False)) (K (Ex.exit 0) {tmps:=[(3,SV.own 0 0 1 m),(6,SV.ro n 2 (bT x y)),(7,SV.int .i64 (↑n:Int)),(8,SV.int .i64 (↑i:Int))],store:=[(0,some (SB.row 9 1 m g))],nxt:=1,dirty:=[0,1,2,3,4],nt:=22})):=by kernel_rfl
theorem VP(n:Nat)(x y:Nat->Int)(i:Nat)(K:KC):aE plE (aB muR 0) plF muP 0 K (.exit 0) (plS n x y .nils none i)=
 (K SV.nils [] []):=by kernel_rfl
theorem UJ(n:Nat)(x y:Nat->Int)(m:Nat)(g:Nat->List SV)(i:Nat)(K:KC):aE plE (aB muR 0) plF muP 0 K (.exit 0) (plS n x y (.own 0 0 1 m) (some (.row 9 1 m g)) i)=
 (K (SV.own 0 0 1 m) [some (SB.row 9 1 m g)] []):=by kernel_rfl
theorem aDQ(t:TypeId)(a b:Int)(K:KC):oA 3 n3 3 18 [.arr 0 0 1 1] [some (.cells t [.int .i64 a,.int .i64 b])] K=
 ((∀(i:Nat),i<2->(aH [aC a,aC b] i).length=1/\(aH [aC a,aC b] i).all aV=true)/\(K (SV.own 1 0 1 2) [some (SB.cells t [SV.int .i64 a,SV.int .i64 b]),some (SB.row 9 1 2 (aH [aC a,aC b]))] [])):=by kernel_rfl
theorem aEe(t:TypeId)(a b c d:Int)(K:KC):oA 4 n3 3 18 [.arr 0 0 2 2] [some (.cells t [.int .i64 a,.int .i64 b,.int .i64 c,.int .i64 d])] K=
 ((∀(i:Nat),i<2->(aH [aC a,aC b] i).length=1/\(aH [aC a,aC b] i).all aV=true)/\((∀(i:Nat),i<2->(aH [aC c,aC d] i).length=1/\(aH [aC c,aC d] i).all aV=true)/\(K (SV.own 1 0 1 4) [some (SB.cells t [SV.int .i64 a,SV.int .i64 b,SV.int .i64 c,SV.int .i64 d]),some (SB.row 9 1 4 (oH 2 (aH [aC a,aC b]) (aH [aC c,aC d])))] []))):=by kernel_rfl
theorem aEb(s:ByteArray)(n:Nat)(g:Nat->List SV)(K:KC):run n3 3 17 [.agg [.ptr 0 0],.str s,.own 1 0 1 n] [some (.cells sbT [.nilp,.nils]),some (.row 9 1 n g)] K=
 ((∀(i:Nat),i<n->(g i).length=1/\(g i).all aV=true)/\(Br (decide (n<=n)&&decide (0<n)&&(decide ((1+n)*16<=1099511627776)&&decide (1+n<9223372036854775808))) (∃(e398:List (List Int)),((1+n=e398.length/\1+n=1+n/\d7 (oH 1 (fun (i:Nat)=>cut [SV.str s] (i*1) 1) g) e398)/\(⟨#[32]⟩:ByteArray)=(⟨#[32]⟩:ByteArray)/\(dF e398).length<=1099511627776/\1+n<=1099511627776)/\(Br (decide ((bytesOf (dF e398)).size+1<9223372036854775808)) ((0<(bytesOf (dF e398)++(⟨#[10]⟩:ByteArray)).size/\(bytesOf (dF e398)++(⟨#[10]⟩:ByteArray)).size<=1099511627776)/\(K (SV.tup []) [some (SB.cells 49 [SV.ptr 0 0,SV.own 2 0 1 (bytesOf (dF e398)++(⟨#[10]⟩:ByteArray)).size]),some (SB.row 9 1 n g),some (SB.row 5 1 (bytesOf (dF e398)++(⟨#[10]⟩:ByteArray)).size (tG (aA (bytesOf (dF e398)++(⟨#[10]⟩:ByteArray)))))] [0])) (False))) (False))):=by kernel_rfl
theorem aFk(s:ByteArray)(m:Nat)(h:Nat->List SV)(n:Nat)(g:Nat->List SV)(K:KC):run n3 3 17 [.agg [.ptr 0 0],.str s,.own 2 0 1 n] [some (.cells sbT [.ptr 0 0,.own 1 0 1 m]),some (.row 5 1 m h),some (.row 9 1 n g)] K=
 ((∀(i:Nat),i<n->(g i).length=1/\(g i).all aV=true)/\(Br (decide (n<=n)&&decide (0<n)&&(decide ((1+n)*16<=1099511627776)&&decide (1+n<9223372036854775808))) (∃(e398:List (List Int)),((1+n=e398.length/\1+n=1+n/\d7 (oH 1 (fun (i:Nat)=>cut [SV.str s] (i*1) 1) g) e398)/\(⟨#[32]⟩:ByteArray)=(⟨#[32]⟩:ByteArray)/\(dF e398).length<=1099511627776/\1+n<=1099511627776)/\(Br (decide ((bytesOf (dF e398)).size+1<9223372036854775808)) (∃(e395:List Int),((m=e395.length/\m=e395.length/\h=tG e395)/\e395.length+(bytesOf (dF e398)++(⟨#[10]⟩:ByteArray)).size<=1099511627776)/\(K (SV.tup []) [some (SB.cells 49 [SV.ptr 0 0,SV.own 3 0 1 (e395++aA (bytesOf (dF e398)++(⟨#[10]⟩:ByteArray))).length]),none,some (SB.row 9 1 n g),some (SB.row 5 1 (e395++aA (bytesOf (dF e398)++(⟨#[10]⟩:ByteArray))).length (tG (e395++aA (bytesOf (dF e398)++(⟨#[10]⟩:ByteArray)))))] [1,0])) (False))) (False))):=by kernel_rfl
theorem aFP(s:ByteArray)(m:Nat)(h:Nat->List SV)(n:Nat)(g:Nat->List SV)(K:KC):run n3 3 17 [.agg [.ptr 0 0],.str s,.ro n 1 g] [some (.cells sbT [.ptr 0 0,.own 1 0 1 m]),some (.row 5 1 m h)] K=
 ((∀(i:Nat),i<n->(g i).length=1/\(g i).all aV=true)/\(Br (true&&decide (0<n)&&(decide ((1+n)*16<=1099511627776)&&decide (1+n<9223372036854775808))) (∃(e398:List (List Int)),((1+n=e398.length/\1+n=1+n/\d7 (oH 1 (fun (i:Nat)=>cut [SV.str s] (i*1) 1) g) e398)/\(⟨#[32]⟩:ByteArray)=(⟨#[32]⟩:ByteArray)/\(dF e398).length<=1099511627776/\1+n<=1099511627776)/\(Br (decide ((bytesOf (dF e398)).size+1<9223372036854775808)) (∃(e395:List Int),((m=e395.length/\m=e395.length/\h=tG e395)/\e395.length+(bytesOf (dF e398)++(⟨#[10]⟩:ByteArray)).size<=1099511627776)/\(K (SV.tup []) [some (SB.cells 49 [SV.ptr 0 0,SV.own 2 0 1 (e395++aA (bytesOf (dF e398)++(⟨#[10]⟩:ByteArray))).length]),none,some (SB.row 5 1 (e395++aA (bytesOf (dF e398)++(⟨#[10]⟩:ByteArray))).length (tG (e395++aA (bytesOf (dF e398)++(⟨#[10]⟩:ByteArray)))))] [1,0])) (False))) (False))):=by kernel_rfl
theorem aFx(n:Nat)(x y:Nat->Int)(hn:n<=1048576)(K:KC)(hK:nQ 9 1 jJ (dD x y 0 n) K):eL muR (fun _=>0) n3 3 18 [.ro n 2 (bT x y)] [] K:=by
 rw [ZD]
 refine ⟨n+1, ?_⟩
 show iter (aF plE (aB muR 0) plF muP 0) (aE plE (aB muR 0) plF muP 0 K) (n+1) (plS n x y .nils none ((0:Nat):Int))
 refine u2 (e:=9) (dD x y 0) (fun o b i=>plS n x y o b i) n rfl (fun i o b hi ht X hX=> ?_) fun o b ht X=> ?_
 ·have hl:=fM x y i 0
  rcases ht with ⟨h0,rfl,rfl⟩|⟨g,hne,rfl,rfl,hg⟩
  ·rw [FN]
   refine Br.of (fun _=>Br.of (fun _=>⟨BC, ?_⟩) fun c=>oO hi c) fun c=>nZ hi c
   rw [aQ hi (by omega),Int.toNat_natCast]
   refine hX _ _ ?_
   rw [pR,h0,Nat.zero_add]
   exact .inr ⟨_,by simp,rfl,rfl,fun j hj=>wT hj⟩
  ·rw [EX]
   refine Br.of (fun _=>Br.of (fun _=>⟨BC,Br.of (fun _=> ?_) fun c=>absurd c (by simp;omega)⟩) fun c=>oO hi c) fun c=>nZ hi c
   rw [aQ hi (by omega),Int.toNat_natCast]
   refine hX _ _ ?_
   rw [pR,Nat.zero_add]
   exact SX (by simp) rfl rfl hg fun j hj=>wT hj
 ·rcases ht with ⟨h0,rfl,rfl⟩|⟨g,hne,rfl,rfl,hg⟩
  ·rw [FN]
   refine Br.of (fun c=>mZ c) fun _=> ?_
   show aE plE (aB muR 0) plF muP 0 K (.exit 0) (plS n x y .nils none n)
   rw [VP];exact hK.1 h0
  ·rw [EX]
   refine Br.of (fun c=>mZ c) fun _=> ?_
   show aE plE (aB muR 0) plF muP 0 K (.exit 0) (plS n x y (.own 0 0 1 _) (some (.row 9 1 _ g)) n)
   rw [UJ];exact hK.2 g hne hg
theorem aEv(n:Nat)(x y:Nat->Int)(hn:n<=1048576):aD Tryz.prog 18 [.ro n 2 (bT x y)] [] (.ro (2*n) 1 (aH (dD x y 0 n))) [] []:=by
 have:=tS (d0:=[]) (R:=muR) (u:=fun _=>0) (B:=n3) (n:=3) (k:=18) (xs:=[.ro n 2 (bT x y)]) (e:=9) (f:=jJ) (L:=dD x y 0 n) (fun _=>rfl) fun _ K hK=>aFx n x y hn K hK
 rw [fM] at this;exact this
theorem aD5(t:TypeId)(a b:Int):aD Tryz.prog 18 [.arr 0 0 1 1] [some (.cells t [.int .i64 a,.int .i64 b])] (.own 1 0 1 2) [some (.cells t [.int .i64 a,.int .i64 b]),some (.row 9 1 2 (aH [aC a,aC b]))] []:=
 kE 3 n3 3 fun _ _ K hK=>by rw [aDQ];exact ⟨BC,hK⟩
theorem aGL{k:FuncId}{xs:List SV}{σ:List (Option SB)}{v:SV}{b:SB}{e n:Nat}{g g':Nat->List SV}(h: ∀i,i<n->g i=g' i)(hc:aD Tryz.prog k xs σ v [some b,some (.row e 1 n g)] []):aD Tryz.prog k xs σ v [some b,some (.row e 1 n g')] []:=
 yV (σ1:=[some b,some (.row e 1 n g)]) rfl (fun q=>by match q with|0=>simp|1=>simp|q+2=>simp) (fun q sb hq=>by
  match q,hq with
  |0,hq=>cases hq;exact ⟨_,rfl,fun _ _ _ _ h=>h⟩
  |1,hq=>cases hq;exact ⟨_,rfl,fun _ _ _ _ hr=>E1 h hr⟩) hc
theorem aEZ(t:TypeId)(a b c d:Int):aD Tryz.prog 18 [.arr 0 0 2 2] [some (.cells t [.int .i64 a,.int .i64 b,.int .i64 c,.int .i64 d])] (.own 1 0 1 4) [some (.cells t [.int .i64 a,.int .i64 b,.int .i64 c,.int .i64 d]),some (.row 9 1 4 (aH [aC a,aC b,aC c,aC d]))] []:=
 aGL (g:=oH 2 (aH [aC a,aC b]) (aH [aC c,aC d])) (fun i hi=>by match i,hi with|0,_=>rfl|1,_=>rfl|2,_=>rfl|3,_=>rfl|i+4,hi=>omega) (kE 4 n3 3 fun _ _ K hK=>by rw [aEe];exact ⟨BC,BC,hK⟩)
def cPl :List SV->List (Option SB)->KC->Prop
 | [.ro n 2 g],[],K=> ∃x y:Nat->Int,(g=bT x y/\n<=1048576)/\K (.ro (2*n) 1 (aH (dD x y 0 n))) [] []
 | [.arr 0 0 1 1],[some (.cells t [.int .i64 a,.int .i64 b])],K=>K (.own 1 0 1 2) [some (.cells t [.int .i64 a,.int .i64 b]),some (.row 9 1 2 (aH [aC a,aC b]))] []
 | [.arr 0 0 2 2],[some (.cells t [.int .i64 a,.int .i64 b,.int .i64 c,.int .i64 d])],K=>K (.own 1 0 1 4) [some (.cells t [.int .i64 a,.int .i64 b,.int .i64 c,.int .i64 d]),some (.row 9 1 4 (aH [aC a,aC b,aC c,aC d]))] []
 |_,_,_=>False
theorem aCf(xs:List SV)(σ:List (Option SB)):Sat Tryz.prog 18 xs σ (cPl xs σ):=by
 intro K hK
 unfold cPl at hK
 split at hK
 case h_4=>exact hK.elim
 ·obtain ⟨x,y,⟨rfl,h⟩,hK⟩:=hK;exact ⟨_,_,_,hK,aEv _ x y h⟩
 ·exact ⟨_,_,_,hK,aD5 _ _ _⟩
 ·exact ⟨_,_,_,hK,aEZ _ _ _ _ _⟩
def cLn :List SV->List (Option SB)->KC->Prop
 | [.agg [.ptr 0 0],.str s,.own 1 0 1 n],[some (.cells 49 [.nilp,.nils]),some (.row 9 1 n' g)],K=> ∃(w:List Int) (p:List (List Int)),((s=bytesOf w/\n=p.length/\n'=n/\d7 g p)/\fH w p)/\
   ∀l:List Int,kT l [] w p->K (.tup []) [some (.cells 49 [.ptr 0 0,.own 2 0 1 l.length]),some (.row 9 1 n g),some (.row 5 1 l.length (tG l))] [0]
 | [.agg [.ptr 0 0],.str s,.own 2 0 1 n],[some (.cells 49 [.ptr 0 0,.own 1 0 1 m]),some (.row 5 1 m' h),some (.row 9 1 n' g)],K=> ∃(w:List Int) (p:List (List Int)) (l0:List Int),((s=bytesOf w/\n=p.length/\n'=n/\d7 g p)/\fH w p/\m=l0.length/\m'=l0.length/\h=tG l0/\l0.length<=1073741824)/\
   ∀l:List Int,kT l l0 w p->K (.tup []) [some (.cells 49 [.ptr 0 0,.own 3 0 1 l.length]),none,some (.row 9 1 n g),some (.row 5 1 l.length (tG l))] [1,0]
 | [.agg [.ptr 0 0],.str s,.ro n 1 g],[some (.cells 49 [.ptr 0 0,.own 1 0 1 m]),some (.row 5 1 m' h)],K=> ∃(w:List Int) (p:List (List Int)) (l0:List Int),((s=bytesOf w/\n=p.length/\d7 g p)/\fH w p/\m=l0.length/\m'=l0.length/\h=tG l0/\l0.length<=1073741824)/\
   ∀l:List Int,kT l l0 w p->K (.tup []) [some (.cells 49 [.ptr 0 0,.own 2 0 1 l.length]),none,some (.row 5 1 l.length (tG l))] [1,0]
 |_,_,_=>False
theorem aEs(xs:List SV)(σ:List (Option SB)):Sat Tryz.prog 17 xs σ (cLn xs σ):=by
 intro K hK
 unfold cLn at hK
 split at hK
 case h_4=>exact hK.elim
 ·obtain ⟨w,p,⟨⟨rfl,rfl,rfl,hg⟩,ho⟩,hK⟩:=hK
  obtain ⟨e1,e2,e3,e4⟩:=ho.facts
  refine ⟨_,_,_,hK _ rfl,aW n3 3 fun _ _ K hK=> ?_⟩
  rw [aEb]
  refine ⟨hg.cells,Br.of (fun _=>⟨w::p,⟨⟨by simp;omega,rfl,sZ hg⟩,rfl,e2,by omega⟩,Br.of (fun _=> ?_) fun c=>absurd (of_decide_eq_false c) (by rw [aO];omega)⟩) fun c=>absurd c (by have:=ho.ne;simp;omega)⟩
  have e5:=bV (bytesOf (dF (w::p))++(⟨#[10]⟩:ByteArray))
  rw [e1] at e5|-
  rw [<- e5]
  exact ⟨⟨by have:=ho.pos;omega,by have:=ho.len;omega⟩,hK⟩
 ·obtain ⟨w,p,l0,⟨⟨rfl,rfl,rfl,hg⟩,ho,rfl,rfl,rfl,hl⟩,hK⟩:=hK
  obtain ⟨e1,e2,e3,e4⟩:=ho.facts
  refine ⟨_,_,_,hK _ rfl,aW n3 3 fun _ _ K hK=> ?_⟩
  rw [aFk]
  refine ⟨hg.cells,Br.of (fun _=>⟨w::p,⟨⟨by simp;omega,rfl,sZ hg⟩,rfl,e2,by omega⟩,Br.of (fun _=>⟨l0,⟨⟨rfl,rfl,rfl⟩, ?_⟩, ?_⟩) fun c=>absurd (of_decide_eq_false c) (by rw [aO];omega)⟩) fun c=>absurd c (by have:=ho.ne;simp;omega)⟩
  ·rw [<- bV,e1];have:=ho.len;omega
  ·rw [e1];exact hK
 ·obtain ⟨w,p,l0,⟨⟨rfl,rfl,hg⟩,ho,rfl,rfl,rfl,hl⟩,hK⟩:=hK
  obtain ⟨e1,e2,e3,e4⟩:=ho.facts
  refine ⟨_,_,_,hK _ rfl,aW n3 3 fun _ _ K hK=> ?_⟩
  rw [aFP]
  refine ⟨hg.cells,Br.of (fun _=>⟨w::p,⟨⟨by simp;omega,rfl,sZ hg⟩,rfl,e2,by omega⟩,Br.of (fun _=>⟨l0,⟨⟨rfl,rfl,rfl⟩, ?_⟩, ?_⟩) fun c=>absurd (of_decide_eq_false c) (by rw [aO];omega)⟩) fun c=>absurd c (by have:=ho.ne;simp;omega)⟩
  ·rw [<- bV,e1];have:=ho.len;omega
  ·rw [e1];exact hK
noncomputable def n4 :bU Tryz.prog:=((n3).add 18 cPl aCf).add 17 cLn aEs
end Go.Proofs.YtghnfjfkjhbgdaaGreatDoor
namespace Go.Proofs.YtghnfjfkjhbgdaaGreatDoor
open Go.Se
set_option maxRecDepth 100000
noncomputable abbrev gdF :Func:=Tryz.f16
def gdT :kD:=WZ 9 32++[(3,.junk),(2,.ptr 1 0),(0,.junk),(1,.junk)]
noncomputable def grA :SB:=aF0 gdF [1,1,1,1,1,0,1,0] 77 gdT
noncomputable def grB :SB:=aF0 gdF [1,1,1,1,1,1,0,1,0] 77 (WZ 46 5++gdT)
def ckR :List (Nat×e9×List ((Nat×List Nat)×Nat)):=[(0,⟨[0,1,2,4],[0,1,2,4,5,6],[0,1,2,3,4,5,6,7,8,9,10],7,[]⟩,[((0,[2,0,1]),6)])]
noncomputable abbrev ckE :Env:=aCw ckR (fun _=>0) n4 3
noncomputable abbrev ckF :Func:=Tryz.f103
noncomputable abbrev ciF :Func:=Tryz.f104
abbrev pgT :TypeId:=51
theorem WR(n:Nat)(f:Nat->Int)(c:Int)(l:List Int)(K:KC):BT ckR (fun _=>0) n4 4 103 [.yld 0,.ptr 4 0,.ptr 5 0] [some grA,some (.cells pgT [.ptr 2 0]),some (.cells sbT [.ptr 2 0,.own 3 0 1 l.length]),some (.row 5 1 l.length (tG l)),some (.cells 25 [.ro n 1 (aM f)]),some (.cells 3 [.int .i64 c])] K=
 (∃q_,bS ckE (cC ckR 6) ckF [1,0] 0 6 K q_ {tmps:=[(0,SV.yld 0),(1,SV.ptr 4 0),(2,SV.ptr 5 0),(4,SV.int .i64 0)],store:=[(0,some (grA)),(1,some (SB.cells 51 [SV.ptr 2 0])),(2,some (SB.cells 49 [SV.ptr 2 0,SV.own 6 0 1 l.length])),(4,some (SB.cells 25 [SV.ro n 1 (aM f)])),(5,some (SB.cells 3 [SV.int .i64 c])),(6,some (SB.row 5 1 l.length (tG l)))],nxt:=7,dirty:=[0,1,2,3,4,5,6,7,8,9,10],nt:=31}):=by kernel_rfl
theorem W1(n:Nat)(f:Nat->Int)(c:Int)(l:List Int)(K:KC):BT ckR (fun _=>0) n4 4 104 [.yld 0,.ptr 4 0,.ptr 5 0] [some grB,some (.cells pgT [.ptr 2 0]),some (.cells sbT [.ptr 2 0,.own 3 0 1 l.length]),some (.row 5 1 l.length (tG l)),some (.cells 26 [.ro n 1 (aM f)]),some (.cells 3 [.int .i64 c])] K=
 (∃q_,bS ckE (cC ckR 6) ciF [1,0] 0 6 K q_ {tmps:=[(0,SV.yld 0),(1,SV.ptr 4 0),(2,SV.ptr 5 0),(4,SV.int .i64 0)],store:=[(0,some (grB)),(1,some (SB.cells 51 [SV.ptr 2 0])),(2,some (SB.cells 49 [SV.ptr 2 0,SV.own 6 0 1 l.length])),(4,some (SB.cells 26 [SV.ro n 1 (aM f)])),(5,some (SB.cells 3 [SV.int .i64 c])),(6,some (SB.row 5 1 l.length (tG l)))],nxt:=7,dirty:=[0,1,2,3,4,5,6,7,8,9,10],nt:=31}):=by kernel_rfl
noncomputable def ckS(r:SB)(T:TypeId)(n:Nat)(f:Nat->Int)(c:Int)(l:List Int)(i:Int):St:=⟨[(0,.yld 0),(1,.ptr 4 0),(2,.ptr 5 0),(4,.int .i64 i)],[(0,some r),(1,some (.cells pgT [.ptr 2 0])),(2,some (.cells sbT [.ptr 2 0,.own 6 0 1 l.length])),(4,some (.cells T [.ro n 1 (aM f)])),(5,some (.cells 3 [.int .i64 c])),(6,some (.row 5 1 l.length (tG l)))],7,[0,1,2,3,4,5,6,7,8,9,10],31⟩
theorem KR(n:Nat)(f:Nat->Int)(c:Int)(l:List Int)(i:Int)(K:Ex->St->Prop):aF ckE (cC ckR 6) ckF [1,0] 0 K (ckS grA 25 n f c l i)=
 (Br (decide (i<(↑n:Int))) (Br (decide (0<=i)&&(decide (i<=(↑n:Int))&&decide ((↑n:Int)<=(↑n:Int)))) (Br (decide (0<=i)&&(decide (i<=IntKind.i64.wrap (i+if (↑((↑n:Int).toNat - i.toNat):Int)<c then (↑((↑n:Int).toNat - i.toNat):Int) else c))&&(decide (IntKind.i64.wrap (i+if (↑((↑n:Int).toNat - i.toNat):Int)<c then (↑((↑n:Int).toNat - i.toNat):Int) else c)<=IntKind.i64.wrap (i+if (↑((↑n:Int).toNat - i.toNat):Int)<c then (↑((↑n:Int).toNat - i.toNat):Int) else c))&&decide (IntKind.i64.wrap (i+if (↑((↑n:Int).toNat - i.toNat):Int)<c then (↑((↑n:Int).toNat - i.toNat):Int) else c)<=(↑n:Int))))) (∃(e397:Nat->Int),((fun (i_1:Nat)=>aM f (i_1+i.toNat))=aM e397/\(IntKind.i64.wrap (i+if (↑((↑n:Int).toNat - i.toNat):Int)<c then (↑((↑n:Int).toNat - i.toNat):Int) else c)).toNat - i.toNat<=1048576)/\(∃(e395:List Int),∃(e394:List (List Int)),∃(e393:List Int),(((⟨#[104,101,105,103,104,116,115]⟩:ByteArray)=bytesOf e395/\(IntKind.i64.wrap (i+if (↑((↑n:Int).toNat - i.toNat):Int)<c then (↑((↑n:Int).toNat - i.toNat):Int) else c)).toNat - i.toNat=e394.length/\d7 (aH ((fun (f:Nat->Int) (n:Nat)=>fV f 0 n) e397 ((IntKind.i64.wrap (i+bif false then if (↑((↑n:Int).toNat - i.toNat):Int)>c then (↑((↑n:Int).toNat - i.toNat):Int) else c else if (↑((↑n:Int).toNat - i.toNat):Int)<c then (↑((↑n:Int).toNat - i.toNat):Int) else c)).toNat - i.toNat))) e394)/\fH e395 e394/\l.length=e393.length/\l.length=e393.length/\tG l=tG e393/\e393.length<=1073741824)/\(∀(l391:List Int),∀(_:kT l391 e393 e395 e394),K Ex.normal {tmps:=[(0,SV.yld 0),(1,SV.ptr 4 0),(2,SV.ptr 5 0),(4,SV.int .i64 (IntKind.i64.wrap (i+c)))],store:=[(0,some (grA)),(1,some (SB.cells 51 [SV.ptr 2 0])),(2,some (SB.cells 49 [SV.ptr 2 0,SV.own 6 0 1 l391.length])),(4,some (SB.cells 25 [SV.ro n 1 (aM f)])),(5,some (SB.cells 3 [SV.int .i64 c])),(6,some (SB.row 5 1 l391.length (tG l391)))],nxt:=7,dirty:=[0,1,2,3,4,5,6,7,8,9,10],nt:=31}))) (False)) (False)) (K (Ex.exit 0) {tmps:=[(0,SV.yld 0),(1,SV.ptr 4 0),(2,SV.ptr 5 0),(4,SV.int .i64 i)],store:=[(0,some (grA)),(1,some (SB.cells 51 [SV.ptr 2 0])),(2,some (SB.cells 49 [SV.ptr 2 0,SV.own 6 0 1 l.length])),(4,some (SB.cells 25 [SV.ro n 1 (aM f)])),(5,some (SB.cells 3 [SV.int .i64 c])),(6,some (SB.row 5 1 l.length (tG l)))],nxt:=7,dirty:=[0,1,2,3,4,5,6,7,8,9,10],nt:=31})):=by kernel_rfl
theorem LD(n:Nat)(f:Nat->Int)(c:Int)(l:List Int)(i:Int)(K:Ex->St->Prop):aF ckE (cC ckR 6) ciF [1,0] 0 K (ckS grB 26 n f c l i)=
 (Br (decide (i<(↑n:Int))) (Br (decide (0<=i)&&(decide (i<=(↑n:Int))&&decide ((↑n:Int)<=(↑n:Int)))) (Br (decide (0<=i)&&(decide (i<=IntKind.i64.wrap (i+if (↑((↑n:Int).toNat - i.toNat):Int)<c then (↑((↑n:Int).toNat - i.toNat):Int) else c))&&(decide (IntKind.i64.wrap (i+if (↑((↑n:Int).toNat - i.toNat):Int)<c then (↑((↑n:Int).toNat - i.toNat):Int) else c)<=IntKind.i64.wrap (i+if (↑((↑n:Int).toNat - i.toNat):Int)<c then (↑((↑n:Int).toNat - i.toNat):Int) else c))&&decide (IntKind.i64.wrap (i+if (↑((↑n:Int).toNat - i.toNat):Int)<c then (↑((↑n:Int).toNat - i.toNat):Int) else c)<=(↑n:Int))))) (∃(e397:Nat->Int),((fun (i_1:Nat)=>aM f (i_1+i.toNat))=aM e397/\(IntKind.i64.wrap (i+if (↑((↑n:Int).toNat - i.toNat):Int)<c then (↑((↑n:Int).toNat - i.toNat):Int) else c)).toNat - i.toNat<=1048576)/\(∃(e395:List Int),∃(e394:List (List Int)),∃(e393:List Int),(((⟨#[103,114,111,117,110,100]⟩:ByteArray)=bytesOf e395/\(IntKind.i64.wrap (i+if (↑((↑n:Int).toNat - i.toNat):Int)<c then (↑((↑n:Int).toNat - i.toNat):Int) else c)).toNat - i.toNat=e394.length/\d7 (aH ((fun (f:Nat->Int) (n:Nat)=>fT f 0 n) e397 ((IntKind.i64.wrap (i+bif false then if (↑((↑n:Int).toNat - i.toNat):Int)>c then (↑((↑n:Int).toNat - i.toNat):Int) else c else if (↑((↑n:Int).toNat - i.toNat):Int)<c then (↑((↑n:Int).toNat - i.toNat):Int) else c)).toNat - i.toNat))) e394)/\fH e395 e394/\l.length=e393.length/\l.length=e393.length/\tG l=tG e393/\e393.length<=1073741824)/\(∀(l391:List Int),∀(_:kT l391 e393 e395 e394),K Ex.normal {tmps:=[(0,SV.yld 0),(1,SV.ptr 4 0),(2,SV.ptr 5 0),(4,SV.int .i64 (IntKind.i64.wrap (i+c)))],store:=[(0,some (grB)),(1,some (SB.cells 51 [SV.ptr 2 0])),(2,some (SB.cells 49 [SV.ptr 2 0,SV.own 6 0 1 l391.length])),(4,some (SB.cells 26 [SV.ro n 1 (aM f)])),(5,some (SB.cells 3 [SV.int .i64 c])),(6,some (SB.row 5 1 l391.length (tG l391)))],nxt:=7,dirty:=[0,1,2,3,4,5,6,7,8,9,10],nt:=31}))) (False)) (False)) (K (Ex.exit 0) {tmps:=[(0,SV.yld 0),(1,SV.ptr 4 0),(2,SV.ptr 5 0),(4,SV.int .i64 i)],store:=[(0,some (grB)),(1,some (SB.cells 51 [SV.ptr 2 0])),(2,some (SB.cells 49 [SV.ptr 2 0,SV.own 6 0 1 l.length])),(4,some (SB.cells 26 [SV.ro n 1 (aM f)])),(5,some (SB.cells 3 [SV.int .i64 c])),(6,some (SB.row 5 1 l.length (tG l)))],nxt:=7,dirty:=[0,1,2,3,4,5,6,7,8,9,10],nt:=31})):=by kernel_rfl
theorem aAk(n:Nat)(f:Nat->Int)(c:Int)(l:List Int)(i:Int)(K:KC):aE ckE (cC ckR 6) ckF [1,0] 6 K (.exit 0) (ckS grA 25 n f c l i)=
 (K (SV.tup []) [some (grA),some (SB.cells 51 [SV.ptr 2 0]),some (SB.cells 49 [SV.ptr 2 0,SV.own 6 0 1 l.length]),none,some (SB.cells 25 [SV.ro n 1 (aM f)]),some (SB.cells 3 [SV.int .i64 c]),some (SB.row 5 1 l.length (tG l))] [0,1,2,3,4,5]):=by kernel_rfl
theorem ZY(n:Nat)(f:Nat->Int)(c:Int)(l:List Int)(i:Int)(K:KC):aE ckE (cC ckR 6) ciF [1,0] 6 K (.exit 0) (ckS grB 26 n f c l i)=
 (K (SV.tup []) [some (grB),some (SB.cells 51 [SV.ptr 2 0]),some (SB.cells 49 [SV.ptr 2 0,SV.own 6 0 1 l.length]),none,some (SB.cells 26 [SV.ro n 1 (aM f)]),some (SB.cells 3 [SV.int .i64 c]),some (SB.row 5 1 l.length (tG l))] [0,1,2,3,4,5]):=by kernel_rfl
theorem aEI (m k:Nat) (f:Nat->Int) (l0:List Int) (hm:1<=m/\m<=65) (hk:k<=65) (hl:l0.length<=100000000) (K:KC)
  (hK: ∀l:List Int,l=l0++bL (xL f m) 0 k->K (.tup []) [some grA,some (.cells pgT [.ptr 2 0]),some (.cells sbT [.ptr 2 0,.own 6 0 1 l.length]),none,some (.cells 25 [.ro (k*m) 1 (aM f)]),some (.cells 3 [.int .i64 m]),some (.row 5 1 l.length (tG l))] [0,1,2,3,4,5]):
  BT ckR (fun _=>0) n4 4 103 [.yld 0,.ptr 4 0,.ptr 5 0] [some grA,some (.cells pgT [.ptr 2 0]),some (.cells sbT [.ptr 2 0,.own 3 0 1 l0.length]),some (.row 5 1 l0.length (tG l0)),some (.cells 25 [.ro (k*m) 1 (aM f)]),some (.cells 3 [.int .i64 m])] K:=by
 have hkm:k*m<=65*65:=Nat.mul_le_mul hk hm.2
 rw [WR]
 refine ⟨k+1, ?_⟩
 show iter (aF ckE (cC ckR 6) ckF [1,0] 0) (aE ckE (cC ckR 6) ckF [1,0] 6 K) (k+1) (ckS grA 25 (k*m) f m l0 ((0:Nat):Int))
 have key:=iA (env:=ckE) (W:=cC ckR 6) (fn:=ckF) (path:=[1,0]) (blk:=0) (KK:=aE ckE (cC ckR 6) ckF [1,0] 6 K) (fun a:Nat×List Int=>ckS grA 25 (k*m) f m a.2 ((a.1*m:Nat):Int)) (fun a=>k - a.1) (fun a=>a.1<=k/\a.2=l0++bL (xL f m) 0 a.1) ?_ (k+1) (0,l0) ⟨Nat.zero_le _,by show l0=l0++[];rw [List.append_nil]⟩ (by show k - 0<k+1;omega)
 ·rw [show 0*m=0 from Nat.zero_mul m] at key
  exact key
 rintro ⟨j,l⟩ ⟨h1,h2⟩ X hX
 simp only at h1 h2 hX|-
 by_cases hj:j<k
 ·have hle:(j+1)*m<=k*m:=Nat.mul_le_mul_right m hj
  rw [Nat.add_mul,Nat.one_mul] at hle
  have hnext:=hX (j+1,l++xL f m j) ⟨hj,by rw [h2,List.append_assoc,jQ,Nat.zero_add]⟩ (by show k - (j+1)<k - j;omega)
  simp only [Nat.add_mul,Nat.one_mul] at hnext
  have hll:l.length<=100325000:=by
   rw [h2,List.length_append]
   have:=iM (f:=xL f m) (B:=5000) (fun i=>A0 (f:=f) (r:=i) hm.2) j 0
   omega
  have hH:xL f m j=lnW gM (fV f (j*m) m):=rfl
  rw [hH] at hnext
  generalize j*m=a at*
  generalize k*m=n at*
  have e:(if (((n - a:Nat):Nat):Int)<(m:Int) then (((n - a:Nat):Nat):Int) else (m:Int))=(m:Int):=if_neg (by omega)
  have hw:IntKind.i64.wrap ((a:Int)+(m:Int))=((a+m:Nat):Int):=by rw [g7];omega
  rw [KR]
  simp only [Int.toNat_natCast,cond_false,e,hw,Nat.add_sub_cancel_left]
  refine Br.of (fun _=>Br.of (fun _=>Br.of (fun _=>⟨fun i=>f (i+a),⟨rfl,by omega⟩,gM,fV f a m,l,⟨⟨rfl,(kW f a m).symm, ?_⟩,d8 (cD rfl) (B3 f a m) (by rw [kW];omega) (by rw [kW];omega),rfl,rfl,rfl,by omega⟩,fun l' hg=> ?_⟩) fun c=>absurd c (by simp;omega)) fun c=>absurd c (by simp;omega)) fun c=>nZ (by omega) c
  ·rw [UI];exact fO _
  ·unfold kT at hg
   rw [hg];exact hnext
 ·obtain rfl:j=k:=by omega
  rw [KR]
  refine Br.of (fun c=>mZ c) fun _=> ?_
  show aE ckE (cC ckR 6) ckF [1,0] 6 K (.exit 0) (ckS grA 25 (j*m) f m l ((j*m:Nat):Int))
  rw [aAk];exact hK l h2
theorem aFO (m k:Nat) (f:Nat->Int) (l0:List Int) (hm:1<=m/\m<=65) (hk:k<=65) (hl:l0.length<=100000000) (K:KC)
  (hK: ∀l:List Int,l=l0++bL (yA f m) 0 k->K (.tup []) [some grB,some (.cells pgT [.ptr 2 0]),some (.cells sbT [.ptr 2 0,.own 6 0 1 l.length]),none,some (.cells 26 [.ro (k*m) 1 (aM f)]),some (.cells 3 [.int .i64 m]),some (.row 5 1 l.length (tG l))] [0,1,2,3,4,5]):
  BT ckR (fun _=>0) n4 4 104 [.yld 0,.ptr 4 0,.ptr 5 0] [some grB,some (.cells pgT [.ptr 2 0]),some (.cells sbT [.ptr 2 0,.own 3 0 1 l0.length]),some (.row 5 1 l0.length (tG l0)),some (.cells 26 [.ro (k*m) 1 (aM f)]),some (.cells 3 [.int .i64 m])] K:=by
 have hkm:k*m<=65*65:=Nat.mul_le_mul hk hm.2
 rw [W1]
 refine ⟨k+1, ?_⟩
 show iter (aF ckE (cC ckR 6) ciF [1,0] 0) (aE ckE (cC ckR 6) ciF [1,0] 6 K) (k+1) (ckS grB 26 (k*m) f m l0 ((0:Nat):Int))
 have key:=iA (env:=ckE) (W:=cC ckR 6) (fn:=ciF) (path:=[1,0]) (blk:=0) (KK:=aE ckE (cC ckR 6) ciF [1,0] 6 K) (fun a:Nat×List Int=>ckS grB 26 (k*m) f m a.2 ((a.1*m:Nat):Int)) (fun a=>k - a.1) (fun a=>a.1<=k/\a.2=l0++bL (yA f m) 0 a.1) ?_ (k+1) (0,l0) ⟨Nat.zero_le _,by show l0=l0++[];rw [List.append_nil]⟩ (by show k - 0<k+1;omega)
 ·rw [show 0*m=0 from Nat.zero_mul m] at key
  exact key
 rintro ⟨j,l⟩ ⟨h1,h2⟩ X hX
 simp only at h1 h2 hX|-
 by_cases hj:j<k
 ·have hle:(j+1)*m<=k*m:=Nat.mul_le_mul_right m hj
  rw [Nat.add_mul,Nat.one_mul] at hle
  have hnext:=hX (j+1,l++yA f m j) ⟨hj,by rw [h2,List.append_assoc,jQ,Nat.zero_add]⟩ (by show k - (j+1)<k - j;omega)
  simp only [Nat.add_mul,Nat.one_mul] at hnext
  have hll:l.length<=100325000:=by
   rw [h2,List.length_append]
   have:=iM (f:=yA f m) (B:=5000) (fun i=>BF (f:=f) (r:=i) hm.2) j 0
   omega
  have hH:yA f m j=lnW iS (fT f (j*m) m):=rfl
  rw [hH] at hnext
  generalize j*m=a at*
  generalize k*m=n at*
  have e:(if (((n - a:Nat):Nat):Int)<(m:Int) then (((n - a:Nat):Nat):Int) else (m:Int))=(m:Int):=if_neg (by omega)
  have hw:IntKind.i64.wrap ((a:Int)+(m:Int))=((a+m:Nat):Int):=by rw [g7];omega
  rw [LD]
  simp only [Int.toNat_natCast,cond_false,e,hw,Nat.add_sub_cancel_left]
  refine Br.of (fun _=>Br.of (fun _=>Br.of (fun _=>⟨fun i=>f (i+a),⟨rfl,by omega⟩,iS,fT f a m,l,⟨⟨rfl,(kQ f a m).symm, ?_⟩,d8 (cD rfl) (DA f a m) (by rw [kQ];omega) (by rw [kQ];omega),rfl,rfl,rfl,by omega⟩,fun l' hg=> ?_⟩) fun c=>absurd c (by simp;omega)) fun c=>absurd c (by simp;omega)) fun c=>nZ (by omega) c
  ·rw [TR];exact fO _
  ·unfold kT at hg
   rw [hg];exact hnext
 ·obtain rfl:j=k:=by omega
  rw [LD]
  refine Br.of (fun c=>mZ c) fun _=> ?_
  show aE ckE (cC ckR 6) ciF [1,0] 6 K (.exit 0) (ckS grB 26 (j*m) f m l ((j*m:Nat):Int))
  rw [ZY];exact hK l h2
def cCh(r:SB)(T:TypeId)(H:(Nat->Int)->Nat->Nat->List Int):List SV->List (Option SB)->KC->Prop
 | [.yld 0,.ptr 4 0,.ptr 5 0],[some r',some (.cells 51 [.ptr 2 0]),some (.cells 49 [.ptr 2 0,.own 3 0 1 a]),some (.row 5 1 a' h),some (.cells t [.ro n 1 g]),some (.cells 3 [.int .i64 c])],K=>
  ∃(m k:Nat) (f:Nat->Int) (l0:List Int),((r'=r/\t=T/\a=l0.length/\a'=l0.length/\h=tG l0/\g=aM f/\c=m/\n=k*m)/\(1<=m/\m<=65)/\k<=65/\l0.length<=100000000)/\
   ∀l:List Int,kJ l l0 (bL (H f m) 0 k)->K (.tup []) [some r,some (.cells 51 [.ptr 2 0]),some (.cells 49 [.ptr 2 0,.own 6 0 1 l.length]),none,some (.cells T [.ro n 1 g]),some (.cells 3 [.int .i64 m]),some (.row 5 1 l.length (tG l))] [0,1,2,3,4,5]
 |_,_,_=>False
theorem aEz(xs:List SV)(σ:List (Option SB)):Sat Tryz.prog 103 xs σ (cCh grA 25 xL xs σ):=by
 intro K hK
 unfold cCh at hK
 split at hK
 case h_2=>exact hK.elim
 obtain ⟨m,k,f,l0,⟨⟨rfl,rfl,rfl,rfl,rfl,rfl,rfl,rfl⟩,h1,h2,h3⟩,hK⟩:=hK
 refine ⟨_,_,_,hK _ rfl,zX ckR (fun _=>0) n4 4 (fun p h=> ?_) fun _ _ K hK=>aEI m k f l0 h1 h2 h3 K fun l hl=> ?_⟩
 ·show p<6
  simp only [List.mem_cons,List.not_mem_nil,or_false] at h
  omega
 ·rw [hl];exact hK _ fun _ h=>h
theorem aFA(xs:List SV)(σ:List (Option SB)):Sat Tryz.prog 104 xs σ (cCh grB 26 yA xs σ):=by
 intro K hK
 unfold cCh at hK
 split at hK
 case h_2=>exact hK.elim
 obtain ⟨m,k,f,l0,⟨⟨rfl,rfl,rfl,rfl,rfl,rfl,rfl,rfl⟩,h1,h2,h3⟩,hK⟩:=hK
 refine ⟨_,_,_,hK _ rfl,zX ckR (fun _=>0) n4 4 (fun p h=> ?_) fun _ _ K hK=>aFO m k f l0 h1 h2 h3 K fun l hl=> ?_⟩
 ·show p<6
  simp only [List.mem_cons,List.not_mem_nil,or_false] at h
  omega
 ·rw [hl];exact hK _ fun _ h=>h
noncomputable def n5 :bU Tryz.prog:=((n4).add 103 (cCh grA 25 xL) aEz).add 104 (cCh grB 26 yA) aFA
end Go.Proofs.YtghnfjfkjhbgdaaGreatDoor
namespace Go.Proofs.YtghnfjfkjhbgdaaGreatDoor
open Go.Se
set_option maxRecDepth 100000
def gnR :List (Nat×e9×List ((Nat×List Nat)×Nat)):=[(4,⟨[2,57,58,59],[0,1,3],[0,1,2,3,4,5,6,7,8,9,10,11,12,13,14,15,16,17,18,19,20,21,22,23,24,25,26,27,28,29,30],4,[]⟩,[((2,[0,1]),3)])]
noncomputable abbrev gnE :Env:=aCw gnR (fun _=>0) n5 3
abbrev gnP :List Nat:=[1,1,1,1,1,1,1,1,0]
theorem XE(t:Trk)(K:KC):BT gnR (fun _=>0) n5 4 16 [.agg [.ptr 0 0],.agg (aU t)] [some (.cells sbT [.nilp,.nils])] K=
 (∃(e400:List Int),∃(e399:List (List Int)),(((⟨#[114,97,116,101]⟩:ByteArray)=bytesOf e400/\1=e399.length/\1=1/\d7 (aH [aJ t.rate]) e399)/\fH e400 e399)/\(∀(l397:List Int),∀(_:kT l397 [] e400 e399),∃(e395:List Int),∃(e394:List (List Int)),∃(e393:List Int),(((⟨#[99,101,108,108]⟩:ByteArray)=bytesOf e395/\1=e394.length/\1=1/\d7 (aH [aC t.cell]) e394)/\fH e395 e394/\l397.length=e393.length/\l397.length=e393.length/\tG l397=tG e393/\e393.length<=1073741824)/\(∀(l391:List Int),∀(_:kT l391 e393 e395 e394),∃(e389:List Int),∃(e388:List (List Int)),∃(e387:List Int),(((⟨#[115,105,122,101]⟩:ByteArray)=bytesOf e389/\2=e388.length/\2=2/\d7 (aH [aJ t.cols,aJ t.rows]) e388)/\fH e389 e388/\l391.length=e387.length/\l391.length=e387.length/\tG l391=tG e387/\e387.length<=1073741824)/\(∀(l385:List Int),∀(_:kT l385 e387 e389 e388),∃(e383:List Int),∃(e382:List (List Int)),∃(e381:List Int),(((⟨#[99,111,114,110,101,114]⟩:ByteArray)=bytesOf e383/\2=e382.length/\2=2/\d7 (aH [aC t.cx,aC t.cy]) e382)/\fH e383 e382/\l385.length=e381.length/\l385.length=e381.length/\tG l385=tG e381/\e381.length<=1073741824)/\(∀(l379:List Int),∀(_:kT l379 e381 e383 e382),Br (decide (IntKind.i64.wrap (t.cols+1)<1)) (False) (∃(e376:Nat),∃(e375:Nat),∃(e374:Nat->Int),∃(e373:List Int),((grA=grA/\25=25/\l379.length=e373.length/\l379.length=e373.length/\tG l379=tG e373/\aM t.h=aM e374/\IntKind.i64.wrap (t.cols+1)=(↑e376:Int)/\t.nh=e375*e376)/\(1<=e376/\e376<=65)/\e375<=65/\e373.length<=100000000)/\(∀(l371:List Int),∀(_:kJ l371 e373 (bL (xL e374 e376) 0 e375)),Br (decide (t.cols<1)) (False) (∃(e368:Nat),∃(e367:Nat),∃(e366:Nat->Int),∃(e365:List Int),((grB=grB/\26=26/\l371.length=e365.length/\l371.length=e365.length/\tG l371=tG e365/\aM t.g=aM e366/\t.cols=(↑e368:Int)/\t.ng=e367*e368)/\(1<=e368/\e368<=65)/\e367<=65/\e365.length<=100000000)/\(∀(l363:List Int),∀(_:kJ l363 e365 (bL (yA e366 e368) 0 e367)),∃q_,bS gnE (cC gnR 1) gdF gnP 4 1 K q_ {tmps:=[(2,SV.ptr 1 0),(57,SV.ro t.nk 3 (eS t)),(58,SV.int .i64 (↑t.nk:Int)),(59,SV.int .i64 0)],store:=[(0,some (SB.cells 49 [SV.ptr 0 0,SV.own 3 0 1 l363.length])),(1,some (SB.cells 51 [SV.ptr 0 0])),(3,some (SB.row 5 1 l363.length (tG l363)))],nxt:=4,dirty:=[0,1,2,3,4,5,6,7,8,9,10,11,12,13,14,15,16,17,18,19,20,21,22,23,24,25,26,27,28,29,30],nt:=77}))))))))):=by kernel_rfl
def gnS(t:Trk)(l:List Int)(i:Int):St:=⟨[(2,.ptr 1 0),(57,.ro t.nk 3 (eS t)),(58,.int .i64 t.nk),(59,.int .i64 i)],[(0,some (.cells sbT [.ptr 0 0,.own 3 0 1 l.length])),(1,some (.cells pgT [.ptr 0 0])),(3,some (.row 5 1 l.length (tG l)))],4,[0,1,2,3,4,5,6,7,8,9,10,11,12,13,14,15,16,17,18,19,20,21,22,23,24,25,26,27,28,29,30],77⟩
theorem JI(t:Trk)(l:List Int)(i:Nat)(K:Ex->St->Prop):aF gnE (cC gnR 1) gdF gnP 4 K (gnS t l i)=
 (Br (decide ((↑i:Int)<(↑t.nk:Int))) (Br (decide (0<=(↑i:Int))&&decide ((↑i:Int)<(↑t.nk:Int))) (Br (t.ko (↑i:Int).toNat) (∃(e397:List Int),∃(e396:List (List Int)),∃(e395:List Int),(((⟨#[107,105,110,100]⟩:ByteArray)=bytesOf e397/\3=e396.length/\3=3/\d7 (bJ 2 [SV.str (⟨#[111,102,102]⟩:ByteArray)] (aH [aC (t.kg (↑i:Int).toNat),aC (t.kd (↑i:Int).toNat)])) e396)/\fH e397 e396/\l.length=e395.length/\l.length=e395.length/\tG l=tG e395/\e395.length<=1073741824)/\(∀(l393:List Int),∀(_:kT l393 e395 e397 e396),K Ex.normal {tmps:=[(2,SV.ptr 1 0),(57,SV.ro t.nk 3 (eS t)),(58,SV.int .i64 (↑t.nk:Int)),(59,SV.int .i64 (IntKind.i64.wrap ((↑i:Int)+1)))],store:=[(0,some (SB.cells 49 [SV.ptr 0 0,SV.own 3 0 1 l393.length])),(1,some (SB.cells 51 [SV.ptr 0 0])),(3,some (SB.row 5 1 l393.length (tG l393)))],nxt:=4,dirty:=[0,1,2,3,4,5,6,7,8,9,10,11,12,13,14,15,16,17,18,19,20,21,22,23,24,25,26,27,28,29,30],nt:=77})) (∃(e397:List Int),∃(e396:List (List Int)),∃(e395:List Int),(((⟨#[107,105,110,100]⟩:ByteArray)=bytesOf e397/\3=e396.length/\3=3/\d7 (bJ 2 [SV.str (⟨#[111,110]⟩:ByteArray)] (aH [aC (t.kg (↑i:Int).toNat),aC (t.kd (↑i:Int).toNat)])) e396)/\fH e397 e396/\l.length=e395.length/\l.length=e395.length/\tG l=tG e395/\e395.length<=1073741824)/\(∀(l393:List Int),∀(_:kT l393 e395 e397 e396),K Ex.normal {tmps:=[(2,SV.ptr 1 0),(57,SV.ro t.nk 3 (eS t)),(58,SV.int .i64 (↑t.nk:Int)),(59,SV.int .i64 (IntKind.i64.wrap ((↑i:Int)+1)))],store:=[(0,some (SB.cells 49 [SV.ptr 0 0,SV.own 3 0 1 l393.length])),(1,some (SB.cells 51 [SV.ptr 0 0])),(3,some (SB.row 5 1 l393.length (tG l393)))],nxt:=4,dirty:=[0,1,2,3,4,5,6,7,8,9,10,11,12,13,14,15,16,17,18,19,20,21,22,23,24,25,26,27,28,29,30],nt:=77}))) (False)) (K (Ex.exit 4) {tmps:=[(2,SV.ptr 1 0),(57,SV.ro t.nk 3 (eS t)),(58,SV.int .i64 (↑t.nk:Int)),(59,SV.int .i64 (↑i:Int))],store:=[(0,some (SB.cells 49 [SV.ptr 0 0,SV.own 3 0 1 l.length])),(1,some (SB.cells 51 [SV.ptr 0 0])),(3,some (SB.row 5 1 l.length (tG l)))],nxt:=4,dirty:=[0,1,2,3,4,5,6,7,8,9,10,11,12,13,14,15,16,17,18,19,20,21,22,23,24,25,26,27,28,29,30],nt:=77})):=by kernel_rfl
theorem WQ(t:Trk)(l:List Int)(i:Nat)(K:KC):aE gnE (cC gnR 1) gdF gnP 1 K (.exit 4) (gnS t l i)=
 (K (SV.tup []) [some (SB.cells 49 [SV.ptr 0 0,SV.own 1 0 1 l.length]),some (SB.row 5 1 l.length (tG l))] [0]):=by kernel_rfl
theorem aCm (t:Trk) (b0:List Int) (hk:t.nk<=8) (hb:b0.length<=1000000) (K:KC)
  (hK: ∀l:List Int,kJ l b0 (bL (B0 t) 0 t.nk)->K (.tup []) [some (.cells sbT [.ptr 0 0,.own 1 0 1 l.length]),some (.row 5 1 l.length (tG l))] [0]):
  bS gnE (cC gnR 1) gdF gnP 4 1 K (t.nk+1) (gnS t b0 ((0:Nat):Int)):=by
 show iter (aF gnE (cC gnR 1) gdF gnP 4) (aE gnE (cC gnR 1) gdF gnP 1 K) (t.nk+1) (gnS t b0 ((0:Nat):Int))
 refine iA (fun a:Nat×List Int=>gnS t a.2 (a.1:Int)) (fun a=>t.nk - a.1) (fun a=>(a.1<=t.nk/\a.2=b0++bL (B0 t) 0 a.1)/\a.2.length<=1000000+200*a.1) ?_ (t.nk+1) (0,b0) ⟨⟨Nat.zero_le _,by show b0=b0++[];rw [List.append_nil]⟩,hb⟩ (by show t.nk - 0<t.nk+1;omega)
 rintro ⟨i,l⟩ ⟨⟨h1,h2⟩,h3⟩ X hX
 simp only at h1 h2 h3 hX|-
 by_cases hi:i<t.nk
 ·have hok:dZ [aC (t.kg i),aC (t.kd i),onW (t.ko i)]:=aL (fE _) (aL (fE _) (aL (XB _) dN))
  have hnext: ∀l':List Int,kT l' l iO [aC (t.kg i),aC (t.kd i),onW (t.ko i)]->X (gnS t l' ((i+1:Nat):Int)):=fun l' hg=>by
   have hl:=lQ hg hok
   rw [show iO.length=4 from rfl] at hl
   simp only [List.length_cons,List.length_nil] at hl
   refine hX (i+1,l') ⟨⟨hi, ?_⟩,by show l'.length<=1000000+200*(i+1);omega⟩ (by show t.nk - (i+1)<t.nk - i;omega)
   unfold kT at hg
   rw [hg,h2,List.append_assoc,jQ,Nat.zero_add];rfl
  rw [JI,aQ hi (by omega),Int.toNat_natCast]
  refine Br.of (fun _=>Br.of (fun _=>Br.of (fun c=> ?_) fun c=> ?_) fun c=>oO hi c) fun c=>nZ hi c
  ·rw [c] at hok hnext
   exact ⟨iO,[aC (t.kg i),aC (t.kd i),onW true],l,⟨⟨rfl,rfl,rfl,aFy (c:=onW true)⟩,d8 (cD rfl) hok (Nat.succ_pos _) (by simp),rfl,rfl,rfl,by omega⟩,fun l' hg=>hnext l' hg⟩
  ·rw [c] at hok hnext
   exact ⟨iO,[aC (t.kg i),aC (t.kd i),onW false],l,⟨⟨rfl,rfl,rfl,aFy (c:=onW false)⟩,d8 (cD rfl) hok (Nat.succ_pos _) (by simp),rfl,rfl,rfl,by omega⟩,fun l' hg=>hnext l' hg⟩
 ·obtain rfl:i=t.nk:=by omega
  rw [JI]
  refine Br.of (fun c=>mZ c) fun _=> ?_
  show aE gnE (cC gnR 1) gdF gnP 1 K (.exit 4) (gnS t l (t.nk:Nat))
  rw [WQ];exact hK l h2
theorem aEn (t:Trk) (h:aA4 t) (K:KC)
  (hK: ∀l:List Int,kJ l [] (tK t)->K (.tup []) [some (.cells sbT [.ptr 0 0,.own 1 0 1 l.length]),some (.row 5 1 l.length (tG l))] [0]):
  BT gnR (fun _=>0) n5 4 16 [.agg [.ptr 0 0],.agg (aU t)] [some (.cells sbT [.nilp,.nils])] K:=by
 obtain ⟨⟨a1,a2⟩,⟨a3,a4⟩,a5,a6,a7⟩:=h
 have w1:IntKind.i64.wrap (t.cols+1)=t.cols+1:=by rw [g7];omega
 have k1:dZ [aJ t.rate]:=aL (uZ _) dN
 have k2:dZ [aC t.cell]:=aL (fE _) dN
 have k3:dZ [aJ t.cols,aJ t.rows]:=aL (uZ _) (aL (uZ _) dN)
 have k4:dZ [aC t.cx,aC t.cy]:=aL (fE _) (aL (fE _) dN)
 rw [XE]
 refine ⟨rO,_,⟨⟨rfl,rfl,rfl,fO _⟩,d8 (cD rfl) k1 (Nat.succ_pos _) (by simp)⟩,fun l1 g1=> ?_⟩
 have e1:=lQ g1 k1
 rw [show rO.length=4 from rfl] at e1
 simp only [List.length_cons,List.length_nil] at e1
 refine ⟨s5,_,l1,⟨⟨rfl,rfl,rfl,fO _⟩,d8 (cD rfl) k2 (Nat.succ_pos _) (by simp),rfl,rfl,rfl,by omega⟩,fun l2 g2=> ?_⟩
 have e2:=lQ g2 k2
 rw [show s5.length=4 from rfl] at e2
 simp only [List.length_cons,List.length_nil] at e2
 refine ⟨nX,_,l2,⟨⟨rfl,rfl,rfl,fO _⟩,d8 (cD rfl) k3 (Nat.succ_pos _) (by simp),rfl,rfl,rfl,by omega⟩,fun l3 g3=> ?_⟩
 have e3:=lQ g3 k3
 rw [show nX.length=4 from rfl] at e3
 simp only [List.length_cons,List.length_nil] at e3
 refine ⟨kC,_,l3,⟨⟨rfl,rfl,rfl,fO _⟩,d8 (cD rfl) k4 (Nat.succ_pos _) (by simp),rfl,rfl,rfl,by omega⟩,fun l4 g4=> ?_⟩
 have e4:=lQ g4 k4
 rw [show kC.length=6 from rfl] at e4
 simp only [List.length_cons,List.length_nil] at e4
 rw [w1]
 refine Br.of (fun c=>absurd (of_decide_eq_true c) (by omega)) fun _=> ?_
 refine ⟨(t.cols+1).toNat,(t.rows+1).toNat,t.h,l4,⟨⟨rfl,rfl,rfl,rfl,rfl,rfl,by omega,a5⟩,by omega,by omega,by omega⟩,fun l5 g5=> ?_⟩
 have e5:l5.length<=l4.length+65*5000:=by
  unfold kJ at g5
  rw [g5,List.length_append]
  have:=iM (f:=xL t.h (t.cols+1).toNat) (B:=5000) (fun i=>A0 (f:=t.h) (r:=i) (by omega)) (t.rows+1).toNat 0
  omega
 refine Br.of (fun c=>absurd (of_decide_eq_true c) (by omega)) fun _=> ?_
 refine ⟨t.cols.toNat,t.rows.toNat,t.g,l5,⟨⟨rfl,rfl,rfl,rfl,rfl,rfl,by omega,a6⟩,by omega,by omega,by omega⟩,fun l6 g6=> ?_⟩
 have e6:l6.length<=l5.length+65*5000:=by
  unfold kJ at g6
  rw [g6,List.length_append]
  have:=iM (f:=yA t.g t.cols.toNat) (B:=5000) (fun i=>BF (f:=t.g) (r:=i) (by omega)) t.rows.toNat 0
  omega
 refine ⟨t.nk+1,aCm t l6 a7 (by omega) K fun l g=>hK l ?_⟩
 unfold kT at g1 g2 g3 g4
 unfold kJ at g5 g6 g|-
 rw [g,g6,g5,g4,g3,g2,g1]
 rfl
def cGn :List SV->List (Option SB)->KC->Prop
 | [.agg [.ptr 0 0],.agg cs],[some (.cells 49 [.nilp,.nils])],K=> ∃t:Trk,(cs=aU t/\aA4 t)/\ ∀l:List Int,kJ l [] (tK t)->K (.tup []) [some (.cells 49 [.ptr 0 0,.own 1 0 1 l.length]),some (.row 5 1 l.length (tG l))] [0]
 |_,_,_=>False
theorem aE8(xs:List SV)(σ:List (Option SB)):Sat Tryz.prog 16 xs σ (cGn xs σ):=by
 intro K hK
 unfold cGn at hK
 split at hK
 case h_2=>exact hK.elim
 obtain ⟨t,⟨rfl,h⟩,hK⟩:=hK
 refine ⟨_,_,_,hK _ rfl,zX gnR (fun _=>0) n5 4 (fun p h=> ?_) fun _ _ K hK=>aEn t h K fun l hl=> ?_⟩
 ·show p<1
  simp only [List.mem_cons,List.not_mem_nil,or_false] at h
  omega
 ·rw [hl];exact hK _ fun _ h=>h
noncomputable def n6 :bU Tryz.prog:=(n5).add 16 cGn aE8
end Go.Proofs.YtghnfjfkjhbgdaaGreatDoor
namespace Go.Proofs.YtghnfjfkjhbgdaaGreatDoor
open Go.Se
set_option maxRecDepth 100000
theorem LY(a b:Int)(K:KC):run k8 2 186 [.agg [.int .i64 a,.int .u64 b]] [] K=
  Br (a==0&&b==0) (K (.int .i64 0) [] []) (K (.int .i64 (IntKind.i64.wrap ((BitVec.ofInt IntKind.i64.bits (mL a 0)|||BitVec.ofInt IntKind.i64.bits 1).toNat:Nat))) [] []):=by kernel_rfl
theorem gX(a b:Int):aD Tryz.prog 186 [.agg [.int .i64 a,.int .u64 b]] [] (.int .i64 (mL (wv a b) 0)) [] []:=
 aW k8 2 fun ⟨⟨_,hb,_⟩,_⟩ _ K hK=>by
  have hb':0<=b/\b<=18446744073709551615:=hb
  rw [LY]
  unfold mL at hK|-
  refine Br.of (fun c=> ?_) fun c=> ?_
  ·simp only [Bool.and_eq_true,beq_iff_eq] at c
   obtain ⟨rfl,rfl⟩:=c
   exact hK
  ·simp only [Bool.and_eq_false_iff,beq_eq_false_iff_ne] at c
   cases h:decide (a<0)
   ·have h':=of_decide_eq_false h
    rw [decide_eq_false (show¬wv a b<0 by unfold wv;omega),decide_eq_true (show 0<wv a b by unfold wv;omega)] at hK
    cases h2:decide (0<a)<;>exact hK
   ·have h':=of_decide_eq_true h
    rw [decide_eq_true (show wv a b<0 by unfold wv;omega)] at hK
    exact fin hK (by kernel_rfl)
def YU :List SV->List (Option SB)->Out
 | [.agg [.int .i64 a,.int .u64 b]],[]=>some (.int .i64 (mL (wv a b) 0),[],[])
 |_,_=>none
noncomputable def p1 :bU Tryz.prog:=((((k8).add 186 (one YU) (bC fun xs σ v σ' d h=>by
  unfold YU at h;split at h<;>cases h;first|exact gX|exact gX _|exact gX _ _|exact gX _ _ _|exact gX _ _ _ _|exact gX _ _ _ _ _|exact gX _ _ _ _ _ _|exact gX _ _ _ _ _ _ _|exact gX _ _ _ _ _ _ _ _|exact gX _ _ _ _ _ _ _ _ _|exact gX _ _ _ _ _ _ _ _ _ _|exact gX _ _ _ _ _ _ _ _ _ _ _)).add 151 (one VA) (bC fun xs σ v σ' d h=>by
  unfold VA at h;split at h<;>cases h;first|exact cM|exact cM _|exact cM _ _|exact cM _ _ _|exact cM _ _ _ _|exact cM _ _ _ _ _|exact cM _ _ _ _ _ _|exact cM _ _ _ _ _ _ _|exact cM _ _ _ _ _ _ _ _|exact cM _ _ _ _ _ _ _ _ _|exact cM _ _ _ _ _ _ _ _ _ _|exact cM _ _ _ _ _ _ _ _ _ _ _)).add 169 (one V1) (bC fun xs σ v σ' d h=>by
  unfold V1 at h;split at h<;>cases h;first|exact cP|exact cP _|exact cP _ _|exact cP _ _ _|exact cP _ _ _ _|exact cP _ _ _ _ _|exact cP _ _ _ _ _ _|exact cP _ _ _ _ _ _ _|exact cP _ _ _ _ _ _ _ _|exact cP _ _ _ _ _ _ _ _ _|exact cP _ _ _ _ _ _ _ _ _ _|exact cP _ _ _ _ _ _ _ _ _ _ _)).add 171 (one TO) (bC fun xs σ v σ' d h=>by
  unfold TO at h;split at h<;>cases h;first|exact cN|exact cN _|exact cN _ _|exact cN _ _ _|exact cN _ _ _ _|exact cN _ _ _ _ _|exact cN _ _ _ _ _ _|exact cN _ _ _ _ _ _ _|exact cN _ _ _ _ _ _ _ _|exact cN _ _ _ _ _ _ _ _ _|exact cN _ _ _ _ _ _ _ _ _ _|exact cN _ _ _ _ _ _ _ _ _ _ _)
theorem gT(ax ay bx ey:Int):aD Tryz.prog 188 [.agg [.int .i64 ax,.int .i64 ay],.agg [.int .i64 bx,.int .i64 ey]] [] (.agg [.int .i64 (w64 (bx - ax)),.int .i64 (w64 (ey - ay))]) [] []:=
 aW p1 2 fun _ _ K hK=>by
  have e: ∀K,run p1 2 188 [.agg [.int .i64 ax,.int .i64 ay],.agg [.int .i64 bx,.int .i64 ey]] [] K=K (.agg [.int .i64 (w64 (bx - ax)),.int .i64 (w64 (ey - ay))]) [] []:=fun K=>by kernel_rfl
  rw [e];exact hK
theorem jB(ux uy vx vy:Int):aD Tryz.prog 190 [.agg [.int .i64 ux,.int .i64 uy],.agg [.int .i64 vx,.int .i64 vy]] [] (gI (N7 ux uy vx vy)) [] []:=
 aW p1 2 fun _ _ K hK=>by
  have e: ∀K,run p1 2 190 [.agg [.int .i64 ux,.int .i64 uy],.agg [.int .i64 vx,.int .i64 vy]] [] K=K (gI (N7 ux uy vx vy)) [] []:=fun K=>by kernel_rfl
  rw [e];exact hK
theorem fL(ux uy vx vy:Int):aD Tryz.prog 215 [.agg [.int .i64 ux,.int .i64 uy],.agg [.int .i64 vx,.int .i64 vy]] [] (gI (DK ux uy vx vy)) [] []:=
 aW p1 3 fun _ _ K hK=>by
  have e: ∀K,run p1 3 215 [.agg [.int .i64 ux,.int .i64 uy],.agg [.int .i64 vx,.int .i64 vy]] [] K=K (gI (DK ux uy vx vy)) [] []:=fun K=>by kernel_rfl
  rw [e];exact hK
def aAN :List SV->List (Option SB)->Out
 | [.agg [.int .i64 ax,.int .i64 ay],.agg [.int .i64 bx,.int .i64 ey]],[]=>some (.agg [.int .i64 (w64 (bx - ax)),.int .i64 (w64 (ey - ay))],[],[])
 |_,_=>none
def aDx :List SV->List (Option SB)->Out
 | [.agg [.int .i64 ux,.int .i64 uy],.agg [.int .i64 vx,.int .i64 vy]],[]=>some (gI (N7 ux uy vx vy),[],[])
 |_,_=>none
def Q5 :List SV->List (Option SB)->Out
 | [.agg [.int .i64 ux,.int .i64 uy],.agg [.int .i64 vx,.int .i64 vy]],[]=>some (gI (DK ux uy vx vy),[],[])
 |_,_=>none
def KY(x y:Int)(F T:Prop):Prop:=Br (decide ((if y>x then y else x)>281474976710656)) F (Br (decide ((if y<x then y else x)< -281474976710656)) F T)
theorem xI{x y:Int}{F T:Prop}(hF:sI x y=true->F)(hT:sI x y=false->T):KY x y F T:=by
 unfold KY
 unfold sI at hF hT
 refine Br.of (fun c=>hF ?_) fun c=>Br.of (fun c2=>hF ?_) fun c2=>hT ?_
 ·rw [c];rfl
 ·rw [c,c2];rfl
 ·rw [c,c2];rfl
theorem gS(t:TypeId)(ax ay bx ey x y:Int):aD Tryz.prog 184 [.arr 0 0 3 3] [some (.cells t [.int .i64 ax,.int .i64 ay,.int .i64 bx,.int .i64 ey,.int .i64 x,.int .i64 y])] (.bool (!EN ax ay bx ey x y))
  [some (.cells t [.int .i64 ax,.int .i64 ay,.int .i64 bx,.int .i64 ey,.int .i64 x,.int .i64 y])] []:=
 kE 5 p1 2 fun _ _ K hK=>by
  have e: ∀K,oA 5 p1 2 184 [.arr 0 0 3 3] [some (.cells t [.int .i64 ax,.int .i64 ay,.int .i64 bx,.int .i64 ey,.int .i64 x,.int .i64 y])] K=
   (fun F T=>KY ax ay F (KY bx ey F (KY x y F T))) (K (.bool false) [some (.cells t [.int .i64 ax,.int .i64 ay,.int .i64 bx,.int .i64 ey,.int .i64 x,.int .i64 y])] []) (K (.bool true) [some (.cells t [.int .i64 ax,.int .i64 ay,.int .i64 bx,.int .i64 ey,.int .i64 x,.int .i64 y])] []):=fun K=>by kernel_rfl
  rw [e]
  unfold EN at hK
  refine xI (fun c=> ?_) fun c=>xI (fun c2=> ?_) fun c2=>xI (fun c3=> ?_) fun c3=> ?_
  ·rw [c] at hK;exact hK
  ·rw [c,c2] at hK;exact hK
  ·rw [c,c2,c3] at hK;exact hK
  ·rw [c,c2,c3] at hK;exact hK
def XD :List SV->List (Option SB)->Out
 | [.arr 0 0 3 3],[some (.cells t [.int .i64 ax,.int .i64 ay,.int .i64 bx,.int .i64 ey,.int .i64 x,.int .i64 y])]=>
  some (.bool (!EN ax ay bx ey x y),[some (.cells t [.int .i64 ax,.int .i64 ay,.int .i64 bx,.int .i64 ey,.int .i64 x,.int .i64 y])],[])
 |_,_=>none
noncomputable def p2 :bU Tryz.prog:=((((p1).add 188 (one aAN) (bC fun xs σ v σ' d h=>by
  unfold aAN at h;split at h<;>cases h;first|exact gT|exact gT _|exact gT _ _|exact gT _ _ _|exact gT _ _ _ _|exact gT _ _ _ _ _|exact gT _ _ _ _ _ _|exact gT _ _ _ _ _ _ _|exact gT _ _ _ _ _ _ _ _|exact gT _ _ _ _ _ _ _ _ _|exact gT _ _ _ _ _ _ _ _ _ _|exact gT _ _ _ _ _ _ _ _ _ _ _)).add 190 (one aDx) (bC fun xs σ v σ' d h=>by
  unfold aDx at h;split at h<;>cases h;first|exact jB|exact jB _|exact jB _ _|exact jB _ _ _|exact jB _ _ _ _|exact jB _ _ _ _ _|exact jB _ _ _ _ _ _|exact jB _ _ _ _ _ _ _|exact jB _ _ _ _ _ _ _ _|exact jB _ _ _ _ _ _ _ _ _|exact jB _ _ _ _ _ _ _ _ _ _|exact jB _ _ _ _ _ _ _ _ _ _ _)).add 215 (one Q5) (bC fun xs σ v σ' d h=>by
  unfold Q5 at h;split at h<;>cases h;first|exact fL|exact fL _|exact fL _ _|exact fL _ _ _|exact fL _ _ _ _|exact fL _ _ _ _ _|exact fL _ _ _ _ _ _|exact fL _ _ _ _ _ _ _|exact fL _ _ _ _ _ _ _ _|exact fL _ _ _ _ _ _ _ _ _|exact fL _ _ _ _ _ _ _ _ _ _|exact fL _ _ _ _ _ _ _ _ _ _ _)).add 184 (one XD) (bC fun xs σ v σ' d h=>by
  unfold XD at h;split at h<;>cases h;first|exact gS|exact gS _|exact gS _ _|exact gS _ _ _|exact gS _ _ _ _|exact gS _ _ _ _ _|exact gS _ _ _ _ _ _|exact gS _ _ _ _ _ _ _|exact gS _ _ _ _ _ _ _ _|exact gS _ _ _ _ _ _ _ _ _|exact gS _ _ _ _ _ _ _ _ _ _|exact gS _ _ _ _ _ _ _ _ _ _ _)
def wA(ax ay bx ey x y:Int):Bool:=decide (0<=EW ax ay bx ey x y)&&decide (0<=EW bx ey ax ay x y)
theorem eJ(ax ay bx ey x y:Int):aD Tryz.prog 187 [.agg [.int .i64 ax,.int .i64 ay],.agg [.int .i64 bx,.int .i64 ey],.agg [.int .i64 x,.int .i64 y]] [] (.bool (wA ax ay bx ey x y)) [] []:=
 aW p2 2 fun _ _ K hK=>by
  have e: ∀K,run p2 2 187 [.agg [.int .i64 ax,.int .i64 ay],.agg [.int .i64 bx,.int .i64 ey],.agg [.int .i64 x,.int .i64 y]] [] K=
   Br (decide (mL (wvw (EW ax ay bx ey x y)) 0>=0)) (K (.bool (decide (mL (wvw (EW bx ey ax ay x y)) 0>=0))) [] []) (K (.bool false) [] []):=fun K=>by kernel_rfl
  rw [e,IC,IC,qH,qH]
  unfold wA at hK
  refine Br.of (fun c=> ?_) fun c=> ?_<;>rw [c] at hK<;>exact hK
theorem gO(ax ay bx ey x y:Int):aD Tryz.prog 185 [.agg [.int .i64 ax,.int .i64 ay],.agg [.int .i64 bx,.int .i64 ey],.agg [.int .i64 x,.int .i64 y]] [] (gI (A1 ax ay bx ey x y)) [] []:=
 aW p2 2 fun _ _ K hK=>by
  have e: ∀K,run p2 2 185 [.agg [.int .i64 ax,.int .i64 ay],.agg [.int .i64 bx,.int .i64 ey],.agg [.int .i64 x,.int .i64 y]] [] K=K (gI (A1 ax ay bx ey x y)) [] []:=fun K=>by kernel_rfl
  rw [e];exact hK
def JH :List SV->List (Option SB)->Out
 | [.agg [.int .i64 ax,.int .i64 ay],.agg [.int .i64 bx,.int .i64 ey],.agg [.int .i64 x,.int .i64 y]],[]=>some (.bool (wA ax ay bx ey x y),[],[])
 |_,_=>none
def XR :List SV->List (Option SB)->Out
 | [.agg [.int .i64 ax,.int .i64 ay],.agg [.int .i64 bx,.int .i64 ey],.agg [.int .i64 x,.int .i64 y]],[]=>some (gI (A1 ax ay bx ey x y),[],[])
 |_,_=>none
noncomputable def p3 :bU Tryz.prog:=((p2).add 187 (one JH) (bC fun xs σ v σ' d h=>by
  unfold JH at h;split at h<;>cases h;first|exact eJ|exact eJ _|exact eJ _ _|exact eJ _ _ _|exact eJ _ _ _ _|exact eJ _ _ _ _ _|exact eJ _ _ _ _ _ _|exact eJ _ _ _ _ _ _ _|exact eJ _ _ _ _ _ _ _ _|exact eJ _ _ _ _ _ _ _ _ _|exact eJ _ _ _ _ _ _ _ _ _ _|exact eJ _ _ _ _ _ _ _ _ _ _ _)).add 185 (one XR) (bC fun xs σ v σ' d h=>by
  unfold XR at h;split at h<;>cases h;first|exact gO|exact gO _|exact gO _ _|exact gO _ _ _|exact gO _ _ _ _|exact gO _ _ _ _ _|exact gO _ _ _ _ _ _|exact gO _ _ _ _ _ _ _|exact gO _ _ _ _ _ _ _ _|exact gO _ _ _ _ _ _ _ _ _|exact gO _ _ _ _ _ _ _ _ _ _|exact gO _ _ _ _ _ _ _ _ _ _ _)
def aFQ(A L:Int)(K:KC):Prop:=
 Br (!jD (wvw A) L) (K (.int .i64 0) [] []) (Br (decide (mL (wvw (nH (wvw A) L*L)) (wvw A)<0)) (K (.int .i64 (IntKind.i64.wrap (nH (wvw A) L+1))) [] []) (K (.int .i64 (nH (wvw A) L)) [] []))
theorem O9(ax ay bx ey x y:Int)(K:KC):run p3 2 149 [.agg [.int .i64 ax,.int .i64 ay],.agg [.int .i64 bx,.int .i64 ey],.agg [.int .i64 x,.int .i64 y]] [] K=
  Br (!!EN ax ay bx ey x y) (K (.int .i64 0) [] []) (Br (decide (mL (wvw (A1 ax ay bx ey x y)) 0>=0)) (K (.int .i64 0) [] []) (Br (!wA ax ay bx ey x y) (K (.int .i64 0) [] [])
   (aFQ (aC6 (A1 ax ay bx ey x y)) (IntKind.i64.wrap (iG (wvw (N7 (w64 (bx - ax)) (w64 (ey - ay)) (w64 (bx - ax)) (w64 (ey - ay)))))) K))):=by kernel_rfl
theorem dK(ax ay bx ey x y:Int):aD Tryz.prog 149 [.agg [.int .i64 ax,.int .i64 ay],.agg [.int .i64 bx,.int .i64 ey],.agg [.int .i64 x,.int .i64 y]] [] (.int .i64 (O8 ax ay bx ey x y)) [] []:=
 aW p3 2 fun _ _ K hK=>by
  rw [O9]
  unfold O8 at hK
  refine Br.of (fun c=> ?_) fun c=> ?_
  ·rw [Bool.not_not] at c;rw [c] at hK;exact hK
  rw [Bool.not_not] at c;rw [c] at hK
  simp only [cond_false] at hK
  obtain ⟨⟨h1,h2⟩,⟨h3,h4⟩,⟨h5,h6⟩⟩:=tN c
  have r1:=NS c
  rw [IC,qH,WP c]
  unfold wA
  rw [CD h1 h2 h3 h4,CD (by omega) (by omega) h5 h6]
  refine Br.of (fun c1=> ?_) fun c1=>Br.of (fun c2=> ?_) fun c2=> ?_
  ·rw [c1] at hK;exact hK
  ·rw [c1] at hK
   have:(decide (vD ax ay bx ey x y<0)||decide (vD bx ey ax ay x y<0))=true:=by
    simp only [Bool.not_eq_true',Bool.and_eq_false_iff,decide_eq_false_iff_not] at c2
    simp only [Bool.or_eq_true,decide_eq_true_eq];omega
   rw [this] at hK;exact hK
  ·have c1':=of_decide_eq_false c1
   rw [c1] at hK
   have:(decide (vD ax ay bx ey x y<0)||decide (vD bx ey ax ay x y<0))=false:=by
    simp only [Bool.not_eq_false',Bool.and_eq_true,decide_eq_true_eq] at c2
    simp only [Bool.or_eq_false_iff,decide_eq_false_iff_not];omega
   rw [this] at hK
   simp only [Bool.or_false,cond_false] at hK
   obtain ⟨l1,l2,l3⟩:=U1 c (by omega)
   have hd:N7 (w64 (bx - ax)) (w64 (ey - ay)) (w64 (bx - ax)) (w64 (ey - ay))=vD ax ay bx ey bx ey:=CD h1 h2 h1 h2
   rw [hd,qH,g7]
   generalize hL:iG (vD ax ay bx ey bx ey)=L at*
   rw [show (L+9223372036854775808)%18446744073709551616 - 9223372036854775808=L by omega,R4 (by omega) (by omega)]
   generalize hA: -sX ax ay bx ey x y=A at*
   have hr:=XS (A:=A) (L:=L) (by omega) l1
   have hdn:A8 A L=iX A L:=by
    unfold A8 bH
    rw [decide_eq_false (show¬A<0 by omega),decide_eq_false (show¬L<0 by omega)];rfl
   have hc0:0<=zD A L/\zD A L<=1125899906842624:=by
    unfold zD
    refine ⟨Int.ediv_nonneg (by omega) (by omega), ?_⟩
    have:(A+L - 1)/L<1125899906842625:=by rw [Int.ediv_lt_iff_lt_mul l1];omega
    omega
   have hq0:0<=iX A L:=by
    have:=Int.ediv_nonneg (show 0<=A by omega) (show 0<=L by omega)
    unfold iX;cases ((decide (A%L>L - A%L)||A%L==L - A%L&&A/L%2==1)&&decide (A%L>0))<;>simp only [cond_true,cond_false]<;>omega
   have hq:iX A L<=zD A L:=by
    rw [<- hr];cases decide (iX A L*L<A)<;>simp only [cond_true,cond_false]<;>omega
   have hg:jD A L=true:=by
    unfold jD
    rw [hdn,(i0 _).2 (by omega),Bool.and_true,bne_iff_ne];omega
   have hv:nH A L=iX A L:=by unfold nH;rw [hg,hdn];rfl
   unfold aFQ
   rw [qH,hg,hv,qH]
   refine Br.of (fun c=>by cases c) fun _=> ?_
   have hcm:decide (mL (iX A L*L) A<0)=decide (iX A L*L<A):=by
    unfold mL
    cases h:decide (iX A L*L<A)
    ·simp only [cond_false];cases decide (A<iX A L*L)<;>rfl
    ·rfl
   rw [hcm]
   refine Br.of (fun c3=> ?_) fun c3=> ?_<;>rw [c3] at hr
   ·simp only [cond_true] at hr
    rw [g7,show (iX A L+1+9223372036854775808)%18446744073709551616 - 9223372036854775808=iX A L+1 by omega,hr]
    exact hK
   ·simp only [cond_false] at hr
    rw [hr];exact hK
def RQ :List SV->List (Option SB)->Out
 | [.agg [.int .i64 ax,.int .i64 ay],.agg [.int .i64 bx,.int .i64 ey],.agg [.int .i64 x,.int .i64 y]],[]=>some (.int .i64 (O8 ax ay bx ey x y),[],[])
 |_,_=>none
noncomputable def p4 :bU Tryz.prog:=(p3).add 149 (one RQ) (bC fun xs σ v σ' d h=>by
  unfold RQ at h;split at h<;>cases h;first|exact dK|exact dK _|exact dK _ _|exact dK _ _ _|exact dK _ _ _ _|exact dK _ _ _ _ _|exact dK _ _ _ _ _ _|exact dK _ _ _ _ _ _ _|exact dK _ _ _ _ _ _ _ _|exact dK _ _ _ _ _ _ _ _ _|exact dK _ _ _ _ _ _ _ _ _ _|exact dK _ _ _ _ _ _ _ _ _ _ _)
end Go.Proofs.YtghnfjfkjhbgdaaGreatDoor
namespace Go.Proofs.YtghnfjfkjhbgdaaGreatDoor
open Go.Se
set_option maxRecDepth 100000
theorem aAs(t:TypeId)(x m:Int)(K:KC):run p4 2 212 [.int .i64 x,.ptr 0 0] [some (.cells t [.int .i64 m])] K=
 (Br (decide (x>m)) (K (SV.bool true) [some (SB.cells t [SV.int .i64 m])] []) (K (SV.bool (decide (x<IntKind.wrap IntKind.i64 (0 - m)))) [some (SB.cells t [SV.int .i64 m])] [])):=by kernel_rfl
theorem gR(t:TypeId)(x m:Int):aD Tryz.prog 212 [.int .i64 x,.ptr 0 0] [some (.cells t [.int .i64 m])] (.bool (eM m x)) [some (.cells t [.int .i64 m])] []:=
 aW p4 2 fun _ _ K hK=>by
  rw [aAs];exact orQ hK
def Z2 :List SV->List (Option SB)->Out
 | [.int .i64 x,.ptr 0 0],[some (.cells t [.int .i64 m])]=>some (.bool (eM m x),[some (.cells t [.int .i64 m])],[])
 |_,_=>none
theorem YV(a0 a1 a2 a3 a4 a5:Int)(nh:Nat)(h:Nat->List SV)(ng:Nat)(g:Nat->List SV)(nk:Nat)(kg:Nat->List SV)(nl:Nat)(l:Nat->List SV)(nr:Nat)(rl:Nat->List SV)(nt:Nat)(gt:Nat->List SV)(sx sy hd lp:Int)(k:Int)(K:KC):run p4 2 176 [.int .i64 k,.ptr 0 0] [some (.cells 34 [.int .i64 a0,.int .i64 a1,.int .i64 a2,.int .i64 a3,.int .i64 a4,.int .i64 a5,.ro nh 1 h,.ro ng 1 g,.ro nk 3 kg,.ro nl 2 l,.ro nr 1 rl,.ro nt 5 gt,.int .i64 sx,.int .i64 sy,.int .u32 hd,.int .i64 lp])] K=
 (Br (decide (k<0)) (K (SV.bool true) [some (SB.cells 34 [SV.int .i64 a0,SV.int .i64 a1,SV.int .i64 a2,SV.int .i64 a3,SV.int .i64 a4,SV.int .i64 a5,SV.ro nh 1 h,SV.ro ng 1 g,SV.ro nk 3 kg,SV.ro nl 2 l,SV.ro nr 1 rl,SV.ro nt 5 gt,SV.int .i64 sx,SV.int .i64 sy,SV.int .u32 hd,SV.int .i64 lp])] []) (K (SV.bool (decide (k>=(↑nk:Int)))) [some (SB.cells 34 [SV.int .i64 a0,SV.int .i64 a1,SV.int .i64 a2,SV.int .i64 a3,SV.int .i64 a4,SV.int .i64 a5,SV.ro nh 1 h,SV.ro ng 1 g,SV.ro nk 3 kg,SV.ro nl 2 l,SV.ro nr 1 rl,SV.ro nt 5 gt,SV.int .i64 sx,SV.int .i64 sy,SV.int .u32 hd,SV.int .i64 lp])] [])):=by kernel_rfl
theorem ZN(a0 a1 a2 a3 a4 a5:Int)(nh:Nat)(h:Nat->List SV)(ng:Nat)(g:Nat->List SV)(nk:Nat)(kg:Nat->List SV)(nl:Nat)(l:Nat->List SV)(nr:Nat)(rl:Nat->List SV)(nt:Nat)(gt:Nat->List SV)(sx sy hd lp:Int)(k:Int):aD Tryz.prog 176 [.int .i64 k,.ptr 0 0] [some (.cells 34 [.int .i64 a0,.int .i64 a1,.int .i64 a2,.int .i64 a3,.int .i64 a4,.int .i64 a5,.ro nh 1 h,.ro ng 1 g,.ro nk 3 kg,.ro nl 2 l,.ro nr 1 rl,.ro nt 5 gt,.int .i64 sx,.int .i64 sy,.int .u32 hd,.int .i64 lp])] (.bool (uH nk k)) [some (.cells 34 [.int .i64 a0,.int .i64 a1,.int .i64 a2,.int .i64 a3,.int .i64 a4,.int .i64 a5,.ro nh 1 h,.ro ng 1 g,.ro nk 3 kg,.ro nl 2 l,.ro nr 1 rl,.ro nt 5 gt,.int .i64 sx,.int .i64 sy,.int .u32 hd,.int .i64 lp])] []:=
 aW p4 2 fun _ _ K hK=>by
  rw [YV];exact orQ hK
def P8 :List SV->List (Option SB)->Out
 | [.int .i64 k,.ptr 0 0],[some (.cells 34 [.int .i64 a0,.int .i64 a1,.int .i64 a2,.int .i64 a3,.int .i64 a4,.int .i64 a5,.ro nh 1 h,.ro ng 1 g,.ro nk 3 kg,.ro nl 2 l,.ro nr 1 rl,.ro nt 5 gt,.int .i64 sx,.int .i64 sy,.int .u32 hd,.int .i64 lp])]=>
  some (.bool (uH nk k),[some (.cells 34 [.int .i64 a0,.int .i64 a1,.int .i64 a2,.int .i64 a3,.int .i64 a4,.int .i64 a5,.ro nh 1 h,.ro ng 1 g,.ro nk 3 kg,.ro nl 2 l,.ro nr 1 rl,.ro nt 5 gt,.int .i64 sx,.int .i64 sy,.int .u32 hd,.int .i64 lp])],[])
 |_,_=>none
theorem TV(xs:List SV)(σ:List (Option SB)):Sat Tryz.prog 176 xs σ (one P8 xs σ):=
 bC (fun xs σ v σ' d h=>by
  unfold P8 at h;split at h<;>cases h;apply ZN) xs σ
theorem aB6(x y:Int)(o:Bool)(K:KC):run p4 2 177 [.agg [.int .i64 x,.int .i64 y,.bool o]] [] K=
 (Br (decide ((bif false then if y>x then y else x else if y<x then y else x)<0)) (K (SV.bool true) [] []) (Br (decide (x>8589934592)) (K (SV.bool true) [] []) (K (SV.bool (decide (y>4294967296))) [] []))):=by kernel_rfl
theorem i3(x y:Int)(o:Bool):aD Tryz.prog 177 [.agg [.int .i64 x,.int .i64 y,.bool o]] [] (.bool (EP x y)) [] []:=
 aW p4 2 fun _ _ K hK=>by
  rw [aB6]
  simp only [zW]
  refine aB4 hK ?_
  unfold EP;simp only [cond_true,cond_false];grind
def aDs :List SV->List (Option SB)->Out
 | [.agg [.int .i64 x,.int .i64 y,.bool _]],[]=>some (.bool (EP x y),[],[])
 |_,_=>none
theorem aCb(x y:Int)(K:KC):run p4 2 145 [.agg [.int .i64 x,.int .i64 y]] [] K=
 (Br (decide ((bif true then if y>x then y else x else if y<x then y else x)>140737488355328)) (K (SV.bool true) [] []) (K (SV.bool (decide ((bif false then if y>x then y else x else if y<x then y else x)< -140737488355328))) [] [])):=by kernel_rfl
theorem i5(x y:Int):aD Tryz.prog 145 [.agg [.int .i64 x,.int .i64 y]] [] (.bool (uC x y)) [] []:=
 aW p4 2 fun _ _ K hK=>by
  rw [aCb];exact orQ hK
theorem aBJ(x y:Int)(K:KC):run p4 2 182 [.agg [.int .i64 x,.int .i64 y]] [] K=
 (Br (decide ((bif true then if y>x then y else x else if y<x then y else x)>281474976710656)) (K (SV.bool true) [] []) (K (SV.bool (decide ((bif false then if y>x then y else x else if y<x then y else x)< -281474976710656))) [] [])):=by kernel_rfl
theorem i2(x y:Int):aD Tryz.prog 182 [.agg [.int .i64 x,.int .i64 y]] [] (.bool (sI x y)) [] []:=
 aW p4 2 fun _ _ K hK=>by
  rw [aBJ];exact orQ hK
def aDA :List SV->List (Option SB)->Out
 | [.agg [.int .i64 x,.int .i64 y]],[]=>some (.bool (uC x y),[],[])
 |_,_=>none
def aDl :List SV->List (Option SB)->Out
 | [.agg [.int .i64 x,.int .i64 y]],[]=>some (.bool (sI x y),[],[])
 |_,_=>none
theorem PU(t:Trk)(K:KC):run p4 2 173 [.agg (aU t)] [] K=
 (Br (decide (1<=t.cols)) (Br (!decide (t.cols<=64)) (K (SV.bool false) [] []) (Br (decide (1<=t.rows)) (Br (!decide (t.rows<=64)) (K (SV.bool false) [] []) (Br (decide ((↑t.nk:Int)<1)) (K (SV.bool false) [] []) (Br (decide ((↑t.nk:Int)>8)) (K (SV.bool false) [] []) (Br ((↑t.nh:Int)==IntKind.wrap IntKind.i64 (IntKind.wrap IntKind.i64 (t.cols+1)*IntKind.wrap IntKind.i64 (t.rows+1))) (K (SV.bool ((↑t.ng:Int)==IntKind.wrap IntKind.i64 (t.cols*t.rows))) [] []) (K (SV.bool false) [] []))))) (K (SV.bool false) [] []))) (K (SV.bool false) [] [])):=by kernel_rfl
theorem NE(t:Trk):aD Tryz.prog 173 [.agg (aU t)] [] (.bool (lG t.cols t.rows t.nh t.ng t.nk)) [] []:=
 aW p4 2 fun _ _ K hK=>by
  rw [PU]
  simp only [zW]
  refine aB4 hK ?_
  unfold lG;grind
noncomputable def p5 :bU Tryz.prog:=(((((p4).add 212 (one Z2) (bC fun xs σ v σ' d h=>by
  unfold Z2 at h;split at h<;>cases h;first|exact gR|exact gR _|exact gR _ _|exact gR _ _ _|exact gR _ _ _ _|exact gR _ _ _ _ _|exact gR _ _ _ _ _ _|exact gR _ _ _ _ _ _ _|exact gR _ _ _ _ _ _ _ _|exact gR _ _ _ _ _ _ _ _ _|exact gR _ _ _ _ _ _ _ _ _ _|exact gR _ _ _ _ _ _ _ _ _ _ _)).add 176 (one P8) TV).add 177 (one aDs) (bC fun xs σ v σ' d h=>by
  unfold aDs at h;split at h<;>cases h;first|exact i3|exact i3 _|exact i3 _ _|exact i3 _ _ _|exact i3 _ _ _ _|exact i3 _ _ _ _ _|exact i3 _ _ _ _ _ _|exact i3 _ _ _ _ _ _ _|exact i3 _ _ _ _ _ _ _ _|exact i3 _ _ _ _ _ _ _ _ _|exact i3 _ _ _ _ _ _ _ _ _ _|exact i3 _ _ _ _ _ _ _ _ _ _ _)).add 145 (one aDA) (bC fun xs σ v σ' d h=>by
  unfold aDA at h;split at h<;>cases h;first|exact i5|exact i5 _|exact i5 _ _|exact i5 _ _ _|exact i5 _ _ _ _|exact i5 _ _ _ _ _|exact i5 _ _ _ _ _ _|exact i5 _ _ _ _ _ _ _|exact i5 _ _ _ _ _ _ _ _|exact i5 _ _ _ _ _ _ _ _ _|exact i5 _ _ _ _ _ _ _ _ _ _|exact i5 _ _ _ _ _ _ _ _ _ _ _)).add 182 (one aDl) (bC fun xs σ v σ' d h=>by
  unfold aDl at h;split at h<;>cases h;first|exact i2|exact i2 _|exact i2 _ _|exact i2 _ _ _|exact i2 _ _ _ _|exact i2 _ _ _ _ _|exact i2 _ _ _ _ _ _|exact i2 _ _ _ _ _ _ _|exact i2 _ _ _ _ _ _ _ _|exact i2 _ _ _ _ _ _ _ _ _|exact i2 _ _ _ _ _ _ _ _ _ _|exact i2 _ _ _ _ _ _ _ _ _ _ _)
end Go.Proofs.YtghnfjfkjhbgdaaGreatDoor
namespace Go.Proofs.YtghnfjfkjhbgdaaGreatDoor
open Go.Se
set_option maxRecDepth 100000
def EK :List (Nat×e9):=[(0,⟨[4,0,1,7,8],[0],[],1,[]⟩)]
def K0(t:TypeId)(m:Int)(X:Nat->Int)(n:Nat)(r i:Int):St:=⟨[(4,.int .i64 r),(0,.ro n 1 (aM X)),(1,.fn (.func 212) [] [.ptr 0 0]),(7,.int .i64 n),(8,.int .i64 i)],[(0,some (.cells t [.int .i64 m]))],1,[],19⟩
theorem UN(K:KC)(t:TypeId)(m:Int)(X:Nat->Int)(n:Nat):eL EK (fun _=>0) p5 2 234 [.ro n 1 (aM X),.fn (.func 212) [] [.ptr 0 0]] [some (.cells t [.int .i64 m])] K=
  ∃k,bS (gC EK (fun _=>0) p5 1) (aB EK 1) Tryz.f234 [1,0,1,0] 0 1 K k (K0 t m X n 0 0):=by kernel_rfl
theorem SN(K:Ex->St->Prop)(t:TypeId)(m:Int)(X:Nat->Int)(n i:Nat):aF (gC EK (fun _=>0) p5 1) (aB EK 1) Tryz.f234 [1,0,1,0] 0 K (K0 t m X n 0 i)=
  Br (decide ((i:Int)<n)) (If (decide (0<=(i:Int))&&decide ((i:Int)<n)) (Br (eM m (X i)) (K .ret (K0 t m X n i i)) (K .normal (K0 t m X n 0 (IntKind.i64.wrap (i+1)))))) (K (.exit 0) (K0 t m X n 0 i)):=by kernel_rfl
theorem aCy(K:KC)(t:TypeId)(m:Int)(X:Nat->Int)(n:Nat)(r i:Int):aE (gC EK (fun _=>0) p5 1) (aB EK 1) Tryz.f234 [1,0,1,0] 1 K .ret (K0 t m X n r i)=K (.int .i64 r) [some (.cells t [.int .i64 m])] []:=by kernel_rfl
theorem TY(K:KC)(t:TypeId)(m:Int)(X:Nat->Int)(n:Nat)(i:Int):aE (gC EK (fun _=>0) p5 1) (aB EK 1) Tryz.f234 [1,0,1,0] 1 K (.exit 0) (K0 t m X n 0 i)=K (.int .i64 (-1)) [some (.cells t [.int .i64 m])] []:=by kernel_rfl
theorem aDS(t:TypeId)(m:Int)(X:Nat->Int)(n:Nat):aD Tryz.prog 234 [.ro n 1 (aM X),.fn (.func 212) [] [.ptr 0 0]] [some (.cells t [.int .i64 m])] (.int .i64 (jU (fun i=>eM m (X i)) n 0)) [some (.cells t [.int .i64 m])] []:=
 iF EK (fun _=>0) p5 2 (fun _ h=>nomatch h) fun ⟨⟨hl,_⟩,_⟩ _ K hK=>by
  rw [UN]
  exact mP (K0 t m X n) n hl _ (fun K i=>SN K t m X n i) (aCy K t m X n) (TY K t m X n) (hK [] fun _ h=>nomatch h)
def EF :List (Nat×e9):=[(0,⟨[4,0,1,7,8],[0],[],1,[]⟩)]
def K7(a0 a1 a2 a3 a4 a5:Int)(nh:Nat)(h:Nat->List SV)(ng:Nat)(g:Nat->List SV)(nk:Nat)(kg:Nat->List SV)(nl:Nat)(l:Nat->List SV)(nr:Nat)(rl:Nat->List SV)(nt:Nat)(gt:Nat->List SV)(sx sy hd lp:Int)(X:Nat->Int)(n:Nat)(r i:Int):St:=⟨[(4,.int .i64 r),(0,.ro n 1 (aM X)),(1,.fn (.func 176) [] [.ptr 0 0]),(7,.int .i64 n),(8,.int .i64 i)],[(0,some (.cells 34 [.int .i64 a0,.int .i64 a1,.int .i64 a2,.int .i64 a3,.int .i64 a4,.int .i64 a5,.ro nh 1 h,.ro ng 1 g,.ro nk 3 kg,.ro nl 2 l,.ro nr 1 rl,.ro nt 5 gt,.int .i64 sx,.int .i64 sy,.int .u32 hd,.int .i64 lp]))],1,[],19⟩
theorem S8(K:KC)(a0 a1 a2 a3 a4 a5:Int)(nh:Nat)(h:Nat->List SV)(ng:Nat)(g:Nat->List SV)(nk:Nat)(kg:Nat->List SV)(nl:Nat)(l:Nat->List SV)(nr:Nat)(rl:Nat->List SV)(nt:Nat)(gt:Nat->List SV)(sx sy hd lp:Int)(X:Nat->Int)(n:Nat):eL EF (fun _=>0) p5 2 213 [.ro n 1 (aM X),.fn (.func 176) [] [.ptr 0 0]] [some (.cells 34 [.int .i64 a0,.int .i64 a1,.int .i64 a2,.int .i64 a3,.int .i64 a4,.int .i64 a5,.ro nh 1 h,.ro ng 1 g,.ro nk 3 kg,.ro nl 2 l,.ro nr 1 rl,.ro nt 5 gt,.int .i64 sx,.int .i64 sy,.int .u32 hd,.int .i64 lp])] K=
  ∃k,bS (gC EF (fun _=>0) p5 1) (aB EF 1) Tryz.f213 [1,0,1,0] 0 1 K k (K7 a0 a1 a2 a3 a4 a5 nh h ng g nk kg nl l nr rl nt gt sx sy hd lp X n 0 0):=by kernel_rfl
theorem SJ(K:Ex->St->Prop)(a0 a1 a2 a3 a4 a5:Int)(nh:Nat)(h:Nat->List SV)(ng:Nat)(g:Nat->List SV)(nk:Nat)(kg:Nat->List SV)(nl:Nat)(l:Nat->List SV)(nr:Nat)(rl:Nat->List SV)(nt:Nat)(gt:Nat->List SV)(sx sy hd lp:Int)(X:Nat->Int)(n i:Nat):aF (gC EF (fun _=>0) p5 1) (aB EF 1) Tryz.f213 [1,0,1,0] 0 K (K7 a0 a1 a2 a3 a4 a5 nh h ng g nk kg nl l nr rl nt gt sx sy hd lp X n 0 i)=
  Br (decide ((i:Int)<n)) (If (decide (0<=(i:Int))&&decide ((i:Int)<n)) (Br (uH nk (X i)) (K .ret (K7 a0 a1 a2 a3 a4 a5 nh h ng g nk kg nl l nr rl nt gt sx sy hd lp X n i i)) (K .normal (K7 a0 a1 a2 a3 a4 a5 nh h ng g nk kg nl l nr rl nt gt sx sy hd lp X n 0 (IntKind.i64.wrap (i+1)))))) (K (.exit 0) (K7 a0 a1 a2 a3 a4 a5 nh h ng g nk kg nl l nr rl nt gt sx sy hd lp X n 0 i)):=by kernel_rfl
theorem aDb(K:KC)(a0 a1 a2 a3 a4 a5:Int)(nh:Nat)(h:Nat->List SV)(ng:Nat)(g:Nat->List SV)(nk:Nat)(kg:Nat->List SV)(nl:Nat)(l:Nat->List SV)(nr:Nat)(rl:Nat->List SV)(nt:Nat)(gt:Nat->List SV)(sx sy hd lp:Int)(X:Nat->Int)(n:Nat)(r i:Int):aE (gC EF (fun _=>0) p5 1) (aB EF 1) Tryz.f213 [1,0,1,0] 1 K .ret (K7 a0 a1 a2 a3 a4 a5 nh h ng g nk kg nl l nr rl nt gt sx sy hd lp X n r i)=K (.int .i64 r) [some (.cells 34 [.int .i64 a0,.int .i64 a1,.int .i64 a2,.int .i64 a3,.int .i64 a4,.int .i64 a5,.ro nh 1 h,.ro ng 1 g,.ro nk 3 kg,.ro nl 2 l,.ro nr 1 rl,.ro nt 5 gt,.int .i64 sx,.int .i64 sy,.int .u32 hd,.int .i64 lp])] []:=by kernel_rfl
theorem TH(K:KC)(a0 a1 a2 a3 a4 a5:Int)(nh:Nat)(h:Nat->List SV)(ng:Nat)(g:Nat->List SV)(nk:Nat)(kg:Nat->List SV)(nl:Nat)(l:Nat->List SV)(nr:Nat)(rl:Nat->List SV)(nt:Nat)(gt:Nat->List SV)(sx sy hd lp:Int)(X:Nat->Int)(n:Nat)(i:Int):aE (gC EF (fun _=>0) p5 1) (aB EF 1) Tryz.f213 [1,0,1,0] 1 K (.exit 0) (K7 a0 a1 a2 a3 a4 a5 nh h ng g nk kg nl l nr rl nt gt sx sy hd lp X n 0 i)=K (.int .i64 (-1)) [some (.cells 34 [.int .i64 a0,.int .i64 a1,.int .i64 a2,.int .i64 a3,.int .i64 a4,.int .i64 a5,.ro nh 1 h,.ro ng 1 g,.ro nk 3 kg,.ro nl 2 l,.ro nr 1 rl,.ro nt 5 gt,.int .i64 sx,.int .i64 sy,.int .u32 hd,.int .i64 lp])] []:=by kernel_rfl
theorem aFw(a0 a1 a2 a3 a4 a5:Int)(nh:Nat)(h:Nat->List SV)(ng:Nat)(g:Nat->List SV)(nk:Nat)(kg:Nat->List SV)(nl:Nat)(l:Nat->List SV)(nr:Nat)(rl:Nat->List SV)(nt:Nat)(gt:Nat->List SV)(sx sy hd lp:Int)(X:Nat->Int)(n:Nat):aD Tryz.prog 213 [.ro n 1 (aM X),.fn (.func 176) [] [.ptr 0 0]] [some (.cells 34 [.int .i64 a0,.int .i64 a1,.int .i64 a2,.int .i64 a3,.int .i64 a4,.int .i64 a5,.ro nh 1 h,.ro ng 1 g,.ro nk 3 kg,.ro nl 2 l,.ro nr 1 rl,.ro nt 5 gt,.int .i64 sx,.int .i64 sy,.int .u32 hd,.int .i64 lp])] (.int .i64 (jU (fun i=>uH nk (X i)) n 0)) [some (.cells 34 [.int .i64 a0,.int .i64 a1,.int .i64 a2,.int .i64 a3,.int .i64 a4,.int .i64 a5,.ro nh 1 h,.ro ng 1 g,.ro nk 3 kg,.ro nl 2 l,.ro nr 1 rl,.ro nt 5 gt,.int .i64 sx,.int .i64 sy,.int .u32 hd,.int .i64 lp])] []:=
 iF EF (fun _=>0) p5 2 (fun _ h=>nomatch h) fun ⟨⟨hl,_⟩,_⟩ _ K hK=>by
  rw [S8]
  exact mP (K7 a0 a1 a2 a3 a4 a5 nh h ng g nk kg nl l nr rl nt gt sx sy hd lp X n) n hl _ (fun K i=>SJ K a0 a1 a2 a3 a4 a5 nh h ng g nk kg nl l nr rl nt gt sx sy hd lp X n i) (aDb K a0 a1 a2 a3 a4 a5 nh h ng g nk kg nl l nr rl nt gt sx sy hd lp X n) (TH K a0 a1 a2 a3 a4 a5 nh h ng g nk kg nl l nr rl nt gt sx sy hd lp X n) (hK [] fun _ h=>nomatch h)
def D7 :List (Nat×e9):=[(0,⟨[4,0,1,7,8],[],[],0,[]⟩)]
def LN(X Y:Nat->Int)(O:Nat->Bool)(n:Nat)(r i:Int):St:=⟨[(4,.int .i64 r),(0,.ro n 3 (R8 X Y O)),(1,.fn (.func 177) [] []),(7,.int .i64 n),(8,.int .i64 i)],[],0,[],19⟩
theorem S3(K:KC)(X Y:Nat->Int)(O:Nat->Bool)(n:Nat):eL D7 (fun _=>0) p5 2 214 [.ro n 3 (R8 X Y O),.fn (.func 177) [] []] [] K=
  ∃k,bS (gC D7 (fun _=>0) p5 1) (aB D7 0) Tryz.f214 [1,0,1,0] 0 0 K k (LN X Y O n 0 0):=by kernel_rfl
theorem UO(K:Ex->St->Prop)(X Y:Nat->Int)(O:Nat->Bool)(n i:Nat):aF (gC D7 (fun _=>0) p5 1) (aB D7 0) Tryz.f214 [1,0,1,0] 0 K (LN X Y O n 0 i)=
  Br (decide ((i:Int)<n)) (If (decide (0<=(i:Int))&&decide ((i:Int)<n)) (Br (EP (X i) (Y i)) (K .ret (LN X Y O n i i)) (K .normal (LN X Y O n 0 (IntKind.i64.wrap (i+1)))))) (K (.exit 0) (LN X Y O n 0 i)):=by kernel_rfl
theorem aBi(K:KC)(X Y:Nat->Int)(O:Nat->Bool)(n:Nat)(r i:Int):aE (gC D7 (fun _=>0) p5 1) (aB D7 0) Tryz.f214 [1,0,1,0] 0 K .ret (LN X Y O n r i)=K (.int .i64 r) [] []:=by kernel_rfl
theorem UR(K:KC)(X Y:Nat->Int)(O:Nat->Bool)(n:Nat)(i:Int):aE (gC D7 (fun _=>0) p5 1) (aB D7 0) Tryz.f214 [1,0,1,0] 0 K (.exit 0) (LN X Y O n 0 i)=K (.int .i64 (-1)) [] []:=by kernel_rfl
theorem aEE(X Y:Nat->Int)(O:Nat->Bool)(n:Nat):aD Tryz.prog 214 [.ro n 3 (R8 X Y O),.fn (.func 177) [] []] [] (.int .i64 (jU (fun i=>EP (X i) (Y i)) n 0)) [] []:=
 iF D7 (fun _=>0) p5 2 (fun _ h=>nomatch h) fun ⟨⟨hl,_⟩,_⟩ _ K hK=>by
  rw [S3]
  exact mP (LN X Y O n) n hl _ (fun K i=>UO K X Y O n i) (aBi K X Y O n) (UR K X Y O n) (hK [] fun _ h=>nomatch h)
def EM :List (Nat×e9):=[(0,⟨[4,0,1,7,8],[],[],0,[]⟩)]
def LK(X Y:Nat->Int)(n:Nat)(r i:Int):St:=⟨[(4,.int .i64 r),(0,.ro n 2 (bD X Y)),(1,.fn (.func 145) [] []),(7,.int .i64 n),(8,.int .i64 i)],[],0,[],19⟩
theorem TX(K:KC)(X Y:Nat->Int)(n:Nat):eL EM (fun _=>0) p5 2 183 [.ro n 2 (bD X Y),.fn (.func 145) [] []] [] K=
  ∃k,bS (gC EM (fun _=>0) p5 1) (aB EM 0) Tryz.f183 [1,0,1,0] 0 0 K k (LK X Y n 0 0):=by kernel_rfl
theorem VI(K:Ex->St->Prop)(X Y:Nat->Int)(n i:Nat):aF (gC EM (fun _=>0) p5 1) (aB EM 0) Tryz.f183 [1,0,1,0] 0 K (LK X Y n 0 i)=
  Br (decide ((i:Int)<n)) (If (decide (0<=(i:Int))&&decide ((i:Int)<n)) (Br (uC (X i) (Y i)) (K .ret (LK X Y n i i)) (K .normal (LK X Y n 0 (IntKind.i64.wrap (i+1)))))) (K (.exit 0) (LK X Y n 0 i)):=by kernel_rfl
theorem aC0(K:KC)(X Y:Nat->Int)(n:Nat)(r i:Int):aE (gC EM (fun _=>0) p5 1) (aB EM 0) Tryz.f183 [1,0,1,0] 0 K .ret (LK X Y n r i)=K (.int .i64 r) [] []:=by kernel_rfl
theorem S9(K:KC)(X Y:Nat->Int)(n:Nat)(i:Int):aE (gC EM (fun _=>0) p5 1) (aB EM 0) Tryz.f183 [1,0,1,0] 0 K (.exit 0) (LK X Y n 0 i)=K (.int .i64 (-1)) [] []:=by kernel_rfl
theorem aFN(X Y:Nat->Int)(n:Nat):aD Tryz.prog 183 [.ro n 2 (bD X Y),.fn (.func 145) [] []] [] (.int .i64 (jU (fun i=>uC (X i) (Y i)) n 0)) [] []:=
 iF EM (fun _=>0) p5 2 (fun _ h=>nomatch h) fun ⟨⟨hl,_⟩,_⟩ _ K hK=>by
  rw [TX]
  exact mP (LK X Y n) n hl _ (fun K i=>VI K X Y n i) (aC0 K X Y n) (S9 K X Y n) (hK [] fun _ h=>nomatch h)
def EH :List (Nat×e9):=[(0,⟨[4,0,1,7,8],[],[],0,[]⟩)]
def LA(X Y:Nat->Int)(n:Nat)(r i:Int):St:=⟨[(4,.int .i64 r),(0,.ro n 2 (bD X Y)),(1,.fn (.func 182) [] []),(7,.int .i64 n),(8,.int .i64 i)],[],0,[],19⟩
theorem TG(K:KC)(X Y:Nat->Int)(n:Nat):eL EH (fun _=>0) p5 2 183 [.ro n 2 (bD X Y),.fn (.func 182) [] []] [] K=
  ∃k,bS (gC EH (fun _=>0) p5 1) (aB EH 0) Tryz.f183 [1,0,1,0] 0 0 K k (LA X Y n 0 0):=by kernel_rfl
theorem SE(K:Ex->St->Prop)(X Y:Nat->Int)(n i:Nat):aF (gC EH (fun _=>0) p5 1) (aB EH 0) Tryz.f183 [1,0,1,0] 0 K (LA X Y n 0 i)=
  Br (decide ((i:Int)<n)) (If (decide (0<=(i:Int))&&decide ((i:Int)<n)) (Br (sI (X i) (Y i)) (K .ret (LA X Y n i i)) (K .normal (LA X Y n 0 (IntKind.i64.wrap (i+1)))))) (K (.exit 0) (LA X Y n 0 i)):=by kernel_rfl
theorem aCJ(K:KC)(X Y:Nat->Int)(n:Nat)(r i:Int):aE (gC EH (fun _=>0) p5 1) (aB EH 0) Tryz.f183 [1,0,1,0] 0 K .ret (LA X Y n r i)=K (.int .i64 r) [] []:=by kernel_rfl
theorem US(K:KC)(X Y:Nat->Int)(n:Nat)(i:Int):aE (gC EH (fun _=>0) p5 1) (aB EH 0) Tryz.f183 [1,0,1,0] 0 K (.exit 0) (LA X Y n 0 i)=K (.int .i64 (-1)) [] []:=by kernel_rfl
theorem aD0(X Y:Nat->Int)(n:Nat):aD Tryz.prog 183 [.ro n 2 (bD X Y),.fn (.func 182) [] []] [] (.int .i64 (jU (fun i=>sI (X i) (Y i)) n 0)) [] []:=
 iF EH (fun _=>0) p5 2 (fun _ h=>nomatch h) fun ⟨⟨hl,_⟩,_⟩ _ K hK=>by
  rw [TG]
  exact mP (LA X Y n) n hl _ (fun K i=>SE K X Y n i) (aCJ K X Y n) (US K X Y n) (hK [] fun _ h=>nomatch h)
def aFn :List SV->List (Option SB)->KC->Prop
 | [.ro n 1 g,.fn (.func 212) [] [.ptr 0 0]],[some (.cells t [.int .i64 m])],K=>qR g/\K (.int .i64 (jU (fun i=>eM m (px (g i))) n 0)) [some (.cells t [.int .i64 m])] []
 |_,_,_=>False
theorem aCY(xs:List SV)(σ:List (Option SB)):Sat Tryz.prog 234 xs σ (aFn xs σ):=by
 intro K hK
 unfold aFn at hK
 split at hK
 ·obtain ⟨hp,hK⟩:=hK
  refine ⟨_,_,_,hK, ?_⟩
  rw [vM hp];apply aDS
 ·exact hK.elim
def aFf :List SV->List (Option SB)->KC->Prop
 | [.ro n 1 gg,.fn (.func 176) [] [.ptr 0 0]],[some (.cells 34 [.int .i64 a0,.int .i64 a1,.int .i64 a2,.int .i64 a3,.int .i64 a4,.int .i64 a5,.ro nh 1 h,.ro ng 1 g,.ro nk 3 kg,.ro nl 2 l,.ro nr 1 rl,.ro nt 5 gt,.int .i64 sx,.int .i64 sy,.int .u32 hd,.int .i64 lp])],K=>
  qR gg/\K (.int .i64 (jU (fun i=>uH nk (px (gg i))) n 0)) [some (.cells 34 [.int .i64 a0,.int .i64 a1,.int .i64 a2,.int .i64 a3,.int .i64 a4,.int .i64 a5,.ro nh 1 h,.ro ng 1 g,.ro nk 3 kg,.ro nl 2 l,.ro nr 1 rl,.ro nt 5 gt,.int .i64 sx,.int .i64 sy,.int .u32 hd,.int .i64 lp])] []
 |_,_,_=>False
theorem aCG(xs:List SV)(σ:List (Option SB)):Sat Tryz.prog 213 xs σ (aFf xs σ):=by
 intro K hK
 unfold aFf at hK
 split at hK
 ·obtain ⟨hp,hK⟩:=hK
  refine ⟨_,_,_,hK, ?_⟩
  rw [vM hp];apply aFw
 ·exact hK.elim
def aDR :List SV->List (Option SB)->KC->Prop
 | [.ro n 3 g,.fn (.func 177) [] []],[],K=>IS g/\K (.int .i64 (jU (fun i=>EP (px (g i)) (py (g i))) n 0)) [] []
 |_,_,_=>False
theorem aCL(xs:List SV)(σ:List (Option SB)):Sat Tryz.prog 214 xs σ (aDR xs σ):=by
 intro K hK
 unfold aDR at hK
 split at hK
 ·obtain ⟨hp,hK⟩:=hK
  refine ⟨_,_,_,hK, ?_⟩
  rw [XQ hp];apply aEE
 ·exact hK.elim
def aFI :List SV->List (Option SB)->KC->Prop
 | [.ro n 2 g,.fn (.func 145) [] []],[],K=>pts g/\K (.int .i64 (jU (fun i=>uC (px (g i)) (py (g i))) n 0)) [] []
 | [.ro n 2 g,.fn (.func 182) [] []],[],K=>pts g/\K (.int .i64 (jU (fun i=>sI (px (g i)) (py (g i))) n 0)) [] []
 |_,_,_=>False
theorem aCr(xs:List SV)(σ:List (Option SB)):Sat Tryz.prog 183 xs σ (aFI xs σ):=by
 intro K hK
 unfold aFI at hK
 split at hK
 ·obtain ⟨hp,hK⟩:=hK
  refine ⟨_,_,_,hK, ?_⟩
  rw [yC hp];apply aFN
 ·obtain ⟨hp,hK⟩:=hK
  refine ⟨_,_,_,hK, ?_⟩
  rw [yC hp];apply aD0
 ·exact hK.elim
noncomputable def p6 :bU Tryz.prog:=((((p5).add 234 aFn aCY).add 213 aFf aCG).add 214 aDR aCL).add 183 aFI aCr
end Go.Proofs.YtghnfjfkjhbgdaaGreatDoor
namespace Go.Proofs.YtghnfjfkjhbgdaaGreatDoor
open Go.Se
set_option maxRecDepth 100000
theorem W0(m:Int)(n:Nat)(X:Nat->Int)(K:KC):run p6 3 178 [.int .i64 m,.ro n 1 (aM X)] [] K=
 ((qR (aM X))/\(K (SV.bool !decide (jU (fun (i:Nat)=>eM m (px (aM X i))) n 0>=0)) [] [])):=by kernel_rfl
theorem aA9(t:TypeId)(x m:Int)(K:KC):oA 3 p5 5 178 [.int .i64 m,.arr 0 0 1 1] [some (.cells t [.int .i64 x])] K=
 (Br (eM m x) (K (SV.bool false) [some (SB.cells t [SV.int .i64 x])] []) (K (SV.bool true) [some (SB.cells t [SV.int .i64 x])] [])):=by kernel_rfl
theorem aA8(t:TypeId)(x y m:Int)(K:KC):oA 4 p5 5 178 [.int .i64 m,.arr 0 0 2 2] [some (.cells t [.int .i64 x,.int .i64 y])] K=
 (Br (eM m x) (K (SV.bool false) [some (SB.cells t [SV.int .i64 x,SV.int .i64 y])] []) (Br (eM m y) (K (SV.bool false) [some (SB.cells t [SV.int .i64 x,SV.int .i64 y])] []) (K (SV.bool true) [some (SB.cells t [SV.int .i64 x,SV.int .i64 y])] []))):=by kernel_rfl
theorem XG(m:Int)(n:Nat)(X:Nat->Int):aD Tryz.prog 178 [.int .i64 m,.ro n 1 (aM X)] [] (.bool (!i1 (fun i=>eM m (X i)) n)) [] []:=
 aW p6 3 fun _ _ K hK=>by
  rw [W0];exact ⟨fun _=>rfl,hK⟩
theorem WM(t:TypeId)(x m:Int):aD Tryz.prog 178 [.int .i64 m,.arr 0 0 1 1] [some (.cells t [.int .i64 x])] (.bool (!eM m x)) [some (.cells t [.int .i64 x])] []:=
 kE 3 p5 5 fun _ _ K hK=>by
  rw [aA9];simp only [zW];refine aB4 hK ?_;cases eM m x<;>rfl
theorem aAf(t:TypeId)(x y m:Int):aD Tryz.prog 178 [.int .i64 m,.arr 0 0 2 2] [some (.cells t [.int .i64 x,.int .i64 y])] (.bool (!(eM m x||eM m y))) [some (.cells t [.int .i64 x,.int .i64 y])] []:=
 kE 4 p5 5 fun _ _ K hK=>by
  rw [aA8];simp only [zW];refine aB4 hK ?_;cases eM m x<;>cases eM m y<;>rfl
def aAl :List SV->List (Option SB)->KC->Prop
 | [.int .i64 m,.ro n 1 g],[],K=>qR g/\K (.bool (!i1 (fun i=>eM m (px (g i))) n)) [] []
 | [.int .i64 m,.arr 0 0 1 1],[some (.cells t [.int .i64 x])],K=>K (.bool (!eM m x)) [some (.cells t [.int .i64 x])] []
 | [.int .i64 m,.arr 0 0 2 2],[some (.cells t [.int .i64 x,.int .i64 y])],K=>K (.bool (!(eM m x||eM m y))) [some (.cells t [.int .i64 x,.int .i64 y])] []
 |_,_,_=>False
theorem Y4(xs:List SV)(σ:List (Option SB)):Sat Tryz.prog 178 xs σ (aAl xs σ):=by
 intro K hK
 unfold aAl at hK
 split at hK
 ·obtain ⟨hp,hK⟩:=hK
  refine ⟨_,_,_,hK, ?_⟩
  rw [vM hp];apply XG
 ·exact ⟨_,_,_,hK,WM _ _ _⟩
 ·exact ⟨_,_,_,hK,aAf _ _ _ _⟩
 ·exact hK.elim
theorem VE(n:Nat)(g:Nat->List SV)(K:KC):run p5 2 174 [.ro n 1 g] [] K=
 (Br (decide (0<n)) ((∀(i:Nat),i<n->(g i).length=1/\(g i).all aV=true)/\(Br (true&&(decide (n*8<=1099511627776)&&decide (n<9223372036854775808))) (Br (decide (0<n)) (K (SV.own 0 0 1 n) [some (SB.row 22 1 n g)] []) (K (SV.arr 0 0 0 0) [some (SB.cells 22 [])] [])) (False))) (False)):=by kernel_rfl
theorem YM(K:KC):run p5 2 174 [.nils] [] K=
 (K SV.nils [] []):=by kernel_rfl
theorem XV(K:KC):run p5 2 174 [.emp] [] K=
 (K (SV.arr 0 0 0 0) [some (SB.cells 22 [])] []):=by kernel_rfl
theorem SL(n:Nat)(g:Nat->List SV)(K:KC):run p5 2 175 [.ro n 1 g] [] K=
 (Br (decide (0<n)) ((∀(i:Nat),i<n->(g i).length=1/\(g i).all aV=true)/\(Br (true&&(decide (n*8<=1099511627776)&&decide (n<9223372036854775808))) (Br (decide (0<n)) (K (SV.own 0 0 1 n) [some (SB.row 3 1 n g)] []) (K (SV.arr 0 0 0 0) [some (SB.cells 3 [])] [])) (False))) (False)):=by kernel_rfl
theorem XO(K:KC):run p5 2 175 [.nils] [] K=
 (K SV.nils [] []):=by kernel_rfl
theorem aAx(K:KC):run p5 2 175 [.emp] [] K=
 (K (SV.arr 0 0 0 0) [some (SB.cells 3 [])] []):=by kernel_rfl
theorem VD(n:Nat)(g:Nat->List SV)(K:KC):run p5 2 147 [.ro n 2 g] [] K=
 (Br (decide (0<n)) ((∀(i:Nat),i<n->(g i).length=2/\(g i).all aV=true)/\(Br (true&&(decide (n*16<=1099511627776)&&decide (n<9223372036854775808))) (Br (decide (0<n)) (K (SV.own 0 0 2 n) [some (SB.row 24 2 n g)] []) (K (SV.arr 0 0 0 0) [some (SB.cells 24 [])] [])) (False))) (False)):=by kernel_rfl
theorem pV{g:Nat->List SV}(h:qR g): ∀i,(g i).length=1/\(g i).all aV=true:=fun i=>by rw [h i];exact ⟨rfl,rfl⟩
theorem TZ{g:Nat->List SV}(h:pts g): ∀i,(g i).length=2/\(g i).all aV=true:=fun i=>by rw [h i];exact ⟨rfl,rfl⟩
theorem WC(n:Nat)(g:Nat->List SV)(hg:qR g)(hn:n<=1000000):aD Tryz.prog 174 [.ro n 1 g] [] (.ro n 1 g) [] []:=
 qA (fun i _=>(pV hg i).1) (fun h0=>aW p5 2 fun _ _ K hK=>by
   rw [VE]
   exact If.mk (decide_eq_true h0) ⟨fun i _=>pV hg i,If.mk (by simp only [Bool.and_eq_true,decide_eq_true_eq,Bool.true_and];omega) (Br.of (fun _=>hK) fun c=>absurd h0 (of_decide_eq_false c))⟩)
  (aW p5 2 fun _ _ K hK=>by rw [YM];exact hK) (aW p5 2 fun _ _ K hK=>by rw [XV];exact hK)
theorem T6(n:Nat)(g:Nat->List SV)(hg:qR g)(hn:n<=1000000):aD Tryz.prog 175 [.ro n 1 g] [] (.ro n 1 g) [] []:=
 qA (fun i _=>(pV hg i).1) (fun h0=>aW p5 2 fun _ _ K hK=>by
   rw [SL]
   exact If.mk (decide_eq_true h0) ⟨fun i _=>pV hg i,If.mk (by simp only [Bool.and_eq_true,decide_eq_true_eq,Bool.true_and];omega) (Br.of (fun _=>hK) fun c=>absurd h0 (of_decide_eq_false c))⟩)
  (aW p5 2 fun _ _ K hK=>by rw [XO];exact hK) (aW p5 2 fun _ _ K hK=>by rw [aAx];exact hK)
theorem VJ(n:Nat)(g:Nat->List SV)(hg:pts g)(h0:0<n)(hn:n<=1000000):aD Tryz.prog 147 [.ro n 2 g] [] (.own 0 0 2 n) [some (.row 24 2 n g)] []:=
 aW p5 2 fun _ _ K hK=>by
  rw [VD]
  exact If.mk (decide_eq_true h0) ⟨fun i _=>TZ hg i,If.mk (by simp only [Bool.and_eq_true,decide_eq_true_eq,Bool.true_and];omega) (Br.of (fun _=>hK) fun c=>absurd h0 (of_decide_eq_false c))⟩
def tW :List SV->List (Option SB)->KC->Prop
 | [.ro n 1 g],[],K=>qR g/\n<=1000000/\K (.ro n 1 g) [] []
 |_,_,_=>False
theorem NZ(xs:List SV)(σ:List (Option SB)):Sat Tryz.prog 174 xs σ (tW xs σ):=by
 intro K hK
 unfold tW at hK
 split at hK
 ·exact ⟨_,_,_,hK.2.2,WC _ _ hK.1 hK.2.1⟩
 ·exact hK.elim
theorem OF(xs:List SV)(σ:List (Option SB)):Sat Tryz.prog 175 xs σ (tW xs σ):=by
 intro K hK
 unfold tW at hK
 split at hK
 ·exact ⟨_,_,_,hK.2.2,T6 _ _ hK.1 hK.2.1⟩
 ·exact hK.elim
def IF :List SV->List (Option SB)->KC->Prop
 | [.ro n 2 g],[],K=>pts g/\(0<n/\n<=1000000)/\K (.own 0 0 2 n) [some (.row 24 2 n g)] []
 |_,_,_=>False
theorem M5(xs:List SV)(σ:List (Option SB)):Sat Tryz.prog 147 xs σ (IF xs σ):=by
 intro K hK
 unfold IF at hK
 split at hK
 ·exact ⟨_,_,_,hK.2.2,VJ _ _ hK.1 hK.2.1.1 hK.2.1.2⟩
 ·exact hK.elim
def AR :List SV->List (Option SB)->KC->Prop
 | [.agg [.int .i64 a0,.int .i64 a1,.int .i64 a2,.int .i64 a3,.int .i64 a4,.int .i64 a5,.ro nh 1 h,.ro ng 1 g,.ro nk 3 kg,.ro nl 2 l,.ro nr 1 rl,.ro nt 5 gt,.int .i64 sx,.int .i64 sy,.int .u32 hd,.int .i64 lp]],[],K=>lY h g kg l rl gt/\K (.bool (lG a2 a3 nh ng nk)) [] []
 |_,_,_=>False
theorem K9(xs:List SV)(σ:List (Option SB)):Sat Tryz.prog 173 xs σ (AR xs σ):=by
 intro K hK
 unfold AR at hK
 split at hK
 ·refine ⟨_,_,_,hK.2, ?_⟩
  rw [nM hK.1]
  exact NE _
 ·exact hK.elim
noncomputable def p7 :bU Tryz.prog:=(((((p6).add 178 aAl Y4).add 174 tW NZ).add 175 tW OF).add 147 IF M5).add 173 AR K9
end Go.Proofs.YtghnfjfkjhbgdaaGreatDoor
namespace Go.Proofs.YtghnfjfkjhbgdaaGreatDoor
open Go.Se
set_option maxRecDepth 100000
abbrev RL :FuncId:=179
def DX :List (Nat×e9):=[(0,⟨[0,2,3,14,15,16],[0],[],1,[]⟩)]
def BI(cell cols rows cx cy:Int)(n:Nat)(h:Nat->Int)(ng:Nat)(g:Nat->Int):List SV:=[.int .i64 cell,.int .i64 cols,.int .i64 rows,.int .i64 cx,.int .i64 cy,.ro n 1 (aM h),.ro ng 1 (aM g)]
def I8(cell cols rows cx cy:Int)(n:Nat)(h:Nat->Int)(ng:Nat)(g:Nat->Int)(w i:Int):St:=
 ⟨[(0,.ptr 0 0),(2,.bool false),(3,.int .i64 w),(14,.ro n 1 (aM h)),(15,.int .i64 n),(16,.int .i64 i)],[(0,some (.cells 245 (BI cell cols rows cx cy n h ng g)))],1,[],75⟩
noncomputable abbrev JQ :Env:=gC DX (fun _=>0) p7 1
abbrev MG :List Nat:=[1,1,0,1,0]
theorem TM(cell cols rows cx cy:Int)(n:Nat)(h:Nat->Int)(ng:Nat)(g:Nat->Int)(K:KC):eL DX (fun _=>0) p7 2 RL [.ptr 0 0] [some (.cells 245 (BI cell cols rows cx cy n h ng g))] K=
  ∃k,bS JQ (aB DX 1) Tryz.f179 MG 0 1 K k (I8 cell cols rows cx cy n h ng g (IntKind.i64.wrap (cols+1)) 0):=by kernel_rfl
theorem FO(cell cols rows cx cy:Int)(n:Nat)(h:Nat->Int)(ng:Nat)(g:Nat->Int)(w:Int)(i:Nat)(K:Ex->St->Prop):aF JQ (aB DX 1) Tryz.f179 MG 0 K (I8 cell cols rows cx cy n h ng g w i)=
 (Br (decide ((↑i:Int)<(↑n:Int))) (Br (decide (0<=(↑i:Int))&&decide ((↑i:Int)<(↑n:Int))) (Br (w !=0) (Br ((IntKind.i64.wrap ((↑i:Int)+1)).tmod w !=0) (Br (decide (0<=IntKind.i64.wrap ((↑i:Int)+1))&&decide (IntKind.i64.wrap ((↑i:Int)+1)<(↑n:Int))) (Br (!!eM cell (IntKind.i64.wrap (h (IntKind.i64.wrap ((↑i:Int)+1)).toNat - h (↑i:Int).toNat))) (K Ex.ret {tmps:=[(0,SV.ptr 0 0),(2,SV.bool false),(3,SV.int .i64 w),(14,SV.ro n 1 (aM h)),(15,SV.int .i64 (↑n:Int)),(16,SV.int .i64 (↑i:Int))],store:=[(0,some (SB.cells 245 [SV.int .i64 cell,SV.int .i64 cols,SV.int .i64 rows,SV.int .i64 cx,SV.int .i64 cy,SV.ro n 1 (aM h),SV.ro ng 1 (aM g)]))],nxt:=1,dirty:=[],nt:=75}) (Br (decide (IntKind.i64.wrap ((↑i:Int)+w)<(↑n:Int))) (Br (decide (0<=IntKind.i64.wrap ((↑i:Int)+w))&&decide (IntKind.i64.wrap ((↑i:Int)+w)<(↑n:Int))) (Br (!!eM cell (IntKind.i64.wrap (h (IntKind.i64.wrap ((↑i:Int)+w)).toNat - h (↑i:Int).toNat))) (K Ex.ret {tmps:=[(0,SV.ptr 0 0),(2,SV.bool false),(3,SV.int .i64 w),(14,SV.ro n 1 (aM h)),(15,SV.int .i64 (↑n:Int)),(16,SV.int .i64 (↑i:Int))],store:=[(0,some (SB.cells 245 [SV.int .i64 cell,SV.int .i64 cols,SV.int .i64 rows,SV.int .i64 cx,SV.int .i64 cy,SV.ro n 1 (aM h),SV.ro ng 1 (aM g)]))],nxt:=1,dirty:=[],nt:=75}) (K Ex.normal {tmps:=[(0,SV.ptr 0 0),(2,SV.bool false),(3,SV.int .i64 w),(14,SV.ro n 1 (aM h)),(15,SV.int .i64 (↑n:Int)),(16,SV.int .i64 (IntKind.i64.wrap ((↑i:Int)+1)))],store:=[(0,some (SB.cells 245 [SV.int .i64 cell,SV.int .i64 cols,SV.int .i64 rows,SV.int .i64 cx,SV.int .i64 cy,SV.ro n 1 (aM h),SV.ro ng 1 (aM g)]))],nxt:=1,dirty:=[],nt:=75})) (False)) (K Ex.normal {tmps:=[(0,SV.ptr 0 0),(2,SV.bool false),(3,SV.int .i64 w),(14,SV.ro n 1 (aM h)),(15,SV.int .i64 (↑n:Int)),(16,SV.int .i64 (IntKind.i64.wrap ((↑i:Int)+1)))],store:=[(0,some (SB.cells 245 [SV.int .i64 cell,SV.int .i64 cols,SV.int .i64 rows,SV.int .i64 cx,SV.int .i64 cy,SV.ro n 1 (aM h),SV.ro ng 1 (aM g)]))],nxt:=1,dirty:=[],nt:=75}))) (False)) (Br (decide (IntKind.i64.wrap ((↑i:Int)+w)<(↑n:Int))) (Br (decide (0<=IntKind.i64.wrap ((↑i:Int)+w))&&decide (IntKind.i64.wrap ((↑i:Int)+w)<(↑n:Int))) (Br (!!eM cell (IntKind.i64.wrap (h (IntKind.i64.wrap ((↑i:Int)+w)).toNat - h (↑i:Int).toNat))) (K Ex.ret {tmps:=[(0,SV.ptr 0 0),(2,SV.bool false),(3,SV.int .i64 w),(14,SV.ro n 1 (aM h)),(15,SV.int .i64 (↑n:Int)),(16,SV.int .i64 (↑i:Int))],store:=[(0,some (SB.cells 245 [SV.int .i64 cell,SV.int .i64 cols,SV.int .i64 rows,SV.int .i64 cx,SV.int .i64 cy,SV.ro n 1 (aM h),SV.ro ng 1 (aM g)]))],nxt:=1,dirty:=[],nt:=75}) (K Ex.normal {tmps:=[(0,SV.ptr 0 0),(2,SV.bool false),(3,SV.int .i64 w),(14,SV.ro n 1 (aM h)),(15,SV.int .i64 (↑n:Int)),(16,SV.int .i64 (IntKind.i64.wrap ((↑i:Int)+1)))],store:=[(0,some (SB.cells 245 [SV.int .i64 cell,SV.int .i64 cols,SV.int .i64 rows,SV.int .i64 cx,SV.int .i64 cy,SV.ro n 1 (aM h),SV.ro ng 1 (aM g)]))],nxt:=1,dirty:=[],nt:=75})) (False)) (K Ex.normal {tmps:=[(0,SV.ptr 0 0),(2,SV.bool false),(3,SV.int .i64 w),(14,SV.ro n 1 (aM h)),(15,SV.int .i64 (↑n:Int)),(16,SV.int .i64 (IntKind.i64.wrap ((↑i:Int)+1)))],store:=[(0,some (SB.cells 245 [SV.int .i64 cell,SV.int .i64 cols,SV.int .i64 rows,SV.int .i64 cx,SV.int .i64 cy,SV.ro n 1 (aM h),SV.ro ng 1 (aM g)]))],nxt:=1,dirty:=[],nt:=75}))) (False)) (False)) (K (Ex.exit 0) {tmps:=[(0,SV.ptr 0 0),(2,SV.bool false),(3,SV.int .i64 w),(14,SV.ro n 1 (aM h)),(15,SV.int .i64 (↑n:Int)),(16,SV.int .i64 (↑i:Int))],store:=[(0,some (SB.cells 245 [SV.int .i64 cell,SV.int .i64 cols,SV.int .i64 rows,SV.int .i64 cx,SV.int .i64 cy,SV.ro n 1 (aM h),SV.ro ng 1 (aM g)]))],nxt:=1,dirty:=[],nt:=75})):=by kernel_rfl
theorem aDc(cell cols rows cx cy:Int)(n:Nat)(h:Nat->Int)(ng:Nat)(g:Nat->Int)(w i:Int)(K:KC):aE JQ (aB DX 1) Tryz.f179 MG 1 K .ret (I8 cell cols rows cx cy n h ng g w i)=
 (K (SV.bool false) [some (SB.cells 245 [SV.int .i64 cell,SV.int .i64 cols,SV.int .i64 rows,SV.int .i64 cx,SV.int .i64 cy,SV.ro n 1 (aM h),SV.ro ng 1 (aM g)])] []):=by kernel_rfl
theorem V8(cell cols rows cx cy:Int)(n:Nat)(h:Nat->Int)(ng:Nat)(g:Nat->Int)(w i:Int)(K:KC):aE JQ (aB DX 1) Tryz.f179 MG 1 K (.exit 0) (I8 cell cols rows cx cy n h ng g w i)=
 (K (SV.bool true) [some (SB.cells 245 [SV.int .i64 cell,SV.int .i64 cols,SV.int .i64 rows,SV.int .i64 cx,SV.int .i64 cy,SV.ro n 1 (aM h),SV.ro ng 1 (aM g)])] []):=by kernel_rfl
theorem aDP(cell cols rows cx cy:Int)(n:Nat)(h:Nat->Int)(ng:Nat)(g:Nat->Int)(w R:Nat)(hw:cols+1=(w:Int))(hw1:1<=w)(hw2:w<=65)(hn:n=w*R)(hn':n<=1000000):
  aD Tryz.prog RL [.ptr 0 0] [some (.cells 245 (BI cell cols rows cx cy n h ng g))] (.bool (!i1 (lW h cell w n) n)) [some (.cells 245 (BI cell cols rows cx cy n h ng g))] []:=
 iF DX (fun _=>0) p7 2 (fun _ h=>nomatch h) fun _ _ K hK=>by
  have hK:=hK [] fun _ h=>nomatch h
  rw [TM,hw,LF (by omega)]
  refine ⟨n+1,jC (fun i:Nat=>I8 cell cols rows cx cy n h ng g w i) n (fun i=> ∀j,j<i->lW h cell w n j=false) (fun i hi hI X hX=> ?_) (fun hI X=> ?_) (fun j hj=>absurd hj (Nat.not_lt_zero j))⟩
  ·have hret:lW h cell w n i=true->fQ X (aE JQ (aB DX 1) Tryz.f179 MG 1 K) .ret (I8 cell cols rows cx cy n h ng g w i):=fun hs=>by
    show aE JQ (aB DX 1) Tryz.f179 MG 1 K .ret _
    rw [aDc]
    rw [show i1 (lW h cell w n) n=true from wB.2 ⟨i,hi,hs⟩] at hK
    exact hK
   have hnext:lW h cell w n i=false->fQ X (aE JQ (aB DX 1) Tryz.f179 MG 1 K) .normal (I8 cell cols rows cx cy n h ng g w (i+1:Nat)):=fun hs=>by
    refine hX fun j hj=> ?_
    rcases Nat.lt_or_eq_of_le (Nat.le_of_lt_succ hj) with hj|rfl
    ·exact hI j hj
    ·exact hs
   have hend:(i+1)%w≠0->i+1<n:=fun h1=>by
    rcases Nat.lt_or_eq_of_le (Nat.succ_le_of_lt hi) with h2|h2
    ·exact h2
    ·rw [show i+1=n from h2,hn,Nat.mul_mod_right] at h1
     exact absurd rfl h1
   rw [FO,aQ (n:=n) hi (by omega),show (i:Int)+(w:Int)=((i+w:Nat):Int) by omega,LF (n:=i+w) (by omega),ZV,RD,RD]
   simp only [Int.toNat_natCast,Bool.not_not]
   unfold lW at hret hnext
   refine Br.of (fun _=>Br.of (fun _=>Br.of (fun _=>Br.of (fun c1=>Br.of (fun _=>Br.of (fun c2=> ?_) fun c2=>Br.of (fun c3=>Br.of (fun _=>Br.of (fun c4=> ?_) fun c4=> ?_) fun c=> ?_) fun c3=> ?_) fun c=> ?_) fun c1=>Br.of (fun c3=>Br.of (fun _=>Br.of (fun c4=> ?_) fun c4=> ?_) fun c=> ?_) fun c3=> ?_) fun c=> ?_) fun c=> ?_) fun c=> ?_
   ·exact hret (by rw [c1,c2];rfl)
   ·exact hret (by rw [c4,show decide (i+w<n)=true from decide_eq_true (by have:=of_decide_eq_true c3;omega),Bool.true_and,Bool.or_true])
   ·exact hnext (by rw [c2,c4,Bool.and_false,Bool.and_false];rfl)
   ·have:=of_decide_eq_true c3
    simp only [Bool.and_eq_false_iff,decide_eq_false_iff_not] at c;omega
   ·exact hnext (by rw [c2,show decide (i+w<n)=false from decide_eq_false (by have:=of_decide_eq_false c3;omega),Bool.and_false];rfl)
   ·have:=hend (of_decide_eq_true c1)
    simp only [Bool.and_eq_false_iff,decide_eq_false_iff_not] at c;omega
   ·exact hret (by rw [c4,show decide (i+w<n)=true from decide_eq_true (by have:=of_decide_eq_true c3;omega),Bool.true_and,Bool.or_true])
   ·exact hnext (by rw [c1,c4,Bool.and_false];rfl)
   ·have:=of_decide_eq_true c3
    simp only [Bool.and_eq_false_iff,decide_eq_false_iff_not] at c;omega
   ·exact hnext (by rw [c1,show decide (i+w<n)=false from decide_eq_false (by have:=of_decide_eq_false c3;omega)];rfl)
   ·have:=of_decide_eq_false c;omega
   ·simp only [Bool.and_eq_false_iff,decide_eq_false_iff_not] at c;omega
   ·have:=of_decide_eq_false c;omega
  ·rw [FO]
   refine Br.of (fun c=>absurd (of_decide_eq_true c) (by omega)) fun _=> ?_
   show aE JQ (aB DX 1) Tryz.f179 MG 1 K (.exit 0) (I8 cell cols rows cx cy n h ng g w n)
   rw [V8]
   rw [show i1 (lW h cell w n) n=false from qM.2 hI] at hK
   exact hK
def IB :List SV->List (Option SB)->KC->Prop
 | [.ptr 0 0],[some (.cells 245 [.int .i64 cell,.int .i64 cols,.int .i64 rows,.int .i64 cx,.int .i64 cy,.ro n 1 h,.ro ng 1 g])],K=>(qR h/\qR g)/\(∃R:Nat,(0<=cols/\cols<=64)/\n=(cols+1).toNat*R/\n<=1000000)/\
  K (.bool (!i1 (lW (fun i=>px (h i)) cell (cols+1).toNat n) n)) [some (.cells 245 [.int .i64 cell,.int .i64 cols,.int .i64 rows,.int .i64 cx,.int .i64 cy,.ro n 1 h,.ro ng 1 g])] []
 |_,_,_=>False
theorem PN(xs:List SV)(σ:List (Option SB)):Sat Tryz.prog RL xs σ (IB xs σ):=by
 intro K hK
 unfold IB at hK
 split at hK
 ·rename_i cell cols rows cx cy n h ng g
  obtain ⟨⟨e1,e2⟩,⟨R,h1,h2,h3⟩,hK⟩:=hK
  refine ⟨_,_,_,hK, ?_⟩
  have:=aDP cell cols rows cx cy n (fun i=>px (h i)) ng (fun i=>px (g i)) (cols+1).toNat R (by omega) (by omega) (by omega) h2 h3
  unfold BI at this
  rw [<- vM e1,<- vM e2] at this
  exact this
 ·exact hK.elim
noncomputable def p8 :bU Tryz.prog:=(p7).add RL IB PN
theorem aBo(t:Trk)(K:KC):run p8 4 141 [.agg (aU t)] [] K=
 ((lY (aM t.h) (aM t.g) (eS t) (bT t.lx t.ly) (cB t) (eN t))/\(Br (!lG t.cols t.rows t.nh t.ng t.nk) (K (SV.tup [SV.nilp,SV.int .i64 42]) [] []) ((qR (aM t.h))/\((t.nh<=1000000)/\((qR (aM t.g))/\((t.ng<=1000000)/\(Br (decide (t.cell<17179869184)) (K (SV.tup [SV.nilp,SV.int .i64 40]) [] []) (Br (decide (t.cell>274877906944)) (K (SV.tup [SV.nilp,SV.int .i64 40]) [] []) (Br (!!(eM 140737488355328 t.cx||eM 140737488355328 t.cy)) (K (SV.tup [SV.nilp,SV.int .i64 40]) [] []) ((qR (aM t.h))/\(Br (!!i1 (fun (i:Nat)=>eM 2199023255552 (px (aM t.h i))) t.nh) (K (SV.tup [SV.nilp,SV.int .i64 40]) [] []) ((qR (aM t.h)/\qR (aM t.g))/\((∃(R:Nat),(0<=t.cols/\t.cols<=64)/\t.nh=(t.cols+1).toNat*R/\t.nh<=1000000)/\(Br (!!i1 (lW (fun (i:Nat)=>px (aM t.h i)) t.cell (t.cols+1).toNat t.nh) t.nh) (K (SV.tup [SV.nilp,SV.int .i64 40]) [] []) ((qR (aM t.g))/\(Br (decide (jU (fun (i:Nat)=>uH t.nk (px (aM t.g i))) t.ng 0>=0)) (K (SV.tup [SV.nilp,SV.int .i64 40]) [] []) ((IS (eS t))/\(Br (decide (jU (fun (i:Nat)=>EP (px (eS t i)) (py (eS t i))) t.nk 0>=0)) (K (SV.tup [SV.nilp,SV.int .i64 40]) [] []) (K (SV.tup [SV.ptr 0 0,SV.int .i64 0]) [some (SB.cells 245 [SV.int .i64 t.cell,SV.int .i64 t.cols,SV.int .i64 t.rows,SV.int .i64 t.cx,SV.int .i64 t.cy,SV.ro t.nh 1 (aM t.h),SV.ro t.ng 1 (aM t.g)])] []))))))))))))))))))):=by kernel_rfl
def PO(t:Trk)(K:KC):Prop:=
 Br (oC t==0) (K (.tup [.ptr 0 0,.int .i64 0]) [some (.cells 245 [.int .i64 t.cell,.int .i64 t.cols,.int .i64 t.rows,.int .i64 t.cx,.int .i64 t.cy,.ro t.nh 1 (aM t.h),.ro t.ng 1 (aM t.g)])] []) (K (.tup [.nilp,.int .i64 (oC t)]) [] [])
theorem Y9(t:Trk)(K:KC)(hK:PO t K):run p8 4 141 [.agg (aU t)] [] K:=by
 rw [aBo]
 refine ⟨gJ t, ?_⟩
 unfold PO oC at hK
 refine Br.of (fun c=> ?_) fun c=> ?_
 ·rw [Bool.not_eq_true'] at c
  rw [c] at hK
  exact hK
 ·rw [Bool.not_eq_false'] at c
  rw [c] at hK
  obtain ⟨⟨h1,_,_⟩,_,_,h2,h3,h4⟩:=uG c
  refine ⟨fun _=>rfl,by omega,fun _=>rfl,by omega, ?_⟩
  simp only [cond_true] at hK
  have bad:mO t=true->K (SV.tup [SV.nilp,SV.int .i64 40]) [] []:=fun h=>by rw [h] at hK;exact hK
  unfold mO at bad
  refine Br.of (fun c1=>bad (by rw [c1];rfl)) fun c1=>Br.of (fun c2=>bad (by rw [c2];exact Bool.or_true _)) fun c2=> ?_
  refine Br.of (fun c3=>bad (by rw [Bool.not_not] at c3;rw [c3,Bool.true_or,Bool.or_true,Bool.or_true])) fun c3=>⟨fun _=>rfl, ?_⟩
  rw [Bool.not_not] at c3
  refine Br.of (fun c4=>bad ?_) fun c4=>⟨⟨fun _=>rfl,fun _=>rfl⟩,⟨(t.rows+1).toNat,by omega,h2,by omega⟩, ?_⟩
  ·rw [Bool.not_not] at c4
   have c4':i1 (fun i=>eM 2199023255552 (t.h i)) t.nh=true:=c4
   rw [c4',Bool.true_or,Bool.or_true,Bool.or_true,Bool.or_true]
  rw [Bool.not_not] at c4
  have c4':i1 (fun i=>eM 2199023255552 (t.h i)) t.nh=false:=c4
  refine Br.of (fun c5=>bad ?_) fun c5=>⟨fun _=>rfl, ?_⟩
  ·rw [Bool.not_not] at c5
   have c5':i1 (lW t.h t.cell (t.cols+1).toNat t.nh) t.nh=true:=c5
   rw [c5',Bool.true_or,Bool.or_true,Bool.or_true,Bool.or_true,Bool.or_true]
  rw [Bool.not_not] at c5
  have c5':i1 (lW t.h t.cell (t.cols+1).toNat t.nh) t.nh=false:=c5
  refine Br.of (fun c6=>bad ?_) fun c6=>⟨fun _=>rfl, ?_⟩
  ·have c6':i1 (fun i=>uH t.nk (t.g i)) t.ng=true:=c6
   rw [c6',Bool.true_or,Bool.or_true,Bool.or_true,Bool.or_true,Bool.or_true,Bool.or_true]
  have c6':i1 (fun i=>uH t.nk (t.g i)) t.ng=false:=c6
  refine Br.of (fun c7=>bad ?_) fun c7=> ?_
  ·have c7':i1 (fun i=>EP (t.kg i) (t.kd i)) t.nk=true:=c7
   rw [c7',Bool.or_true,Bool.or_true,Bool.or_true,Bool.or_true,Bool.or_true,Bool.or_true]
  have c7':i1 (fun i=>EP (t.kg i) (t.kd i)) t.nk=false:=c7
  rw [show mO t=false by unfold mO;rw [c1,c2,c3,c4',c5',c6',c7'];rfl] at hK
  exact hK
def aBd :List SV->List (Option SB)->KC->Prop
 | [.agg [.int .i64 a0,.int .i64 a1,.int .i64 a2,.int .i64 a3,.int .i64 a4,.int .i64 a5,.ro nh 1 h,.ro ng 1 g,.ro nk 3 kg,.ro nl 2 l,.ro nr 1 rl,.ro nt 5 gt,.int .i64 sx,.int .i64 sy,.int .u32 hd,.int .i64 lp]],[],K=>lY h g kg l rl gt/\PO (mG a0 a1 a2 a3 a4 a5 nh h ng g nk kg nl l nr rl nt gt sx sy hd lp) K
 |_,_,_=>False
theorem WU(xs:List SV)(σ:List (Option SB)):Sat Tryz.prog 141 xs σ (aBd xs σ):=by
 intro K hK
 unfold aBd at hK
 split at hK
 ·rw [nM hK.1]
  exact cA (env:=tab.env p8 (fun _=>0) (fun _=>false)) ⟨tab.htt,p8.ok⟩ tab.mixed (fun n=>bF n []) tab.hft 4 _ _ _ K (Y9 _ K hK.2)
 ·exact hK.elim
end Go.Proofs.YtghnfjfkjhbgdaaGreatDoor
namespace Go.Proofs.YtghnfjfkjhbgdaaGreatDoor
open Go.Se
set_option maxRecDepth 100000
abbrev aBB :FuncId:=146
def cpR :List (Nat×e9):=[(0,⟨[0,2,3],[0],[0],1,[]⟩),(2,⟨[0,2,3,4,5],[0],[0],1,[]⟩)]
def cpS(n:Nat)(X Y:Nat->Int)(k:Int):St:=⟨[(0,.own 0 0 2 n),(2,.nils),(3,.int .i64 k)],[(0,some (.row 24 2 n (bD X Y)))],1,[0],61⟩
def cpT(n k0:Nat)(X Y:Nat->Int)(k k2:Int):St:=⟨[(0,.own 0 0 2 n),(2,.nils),(3,.int .i64 k),(4,.own 0 k0 2 (n - k0)),(5,.int .i64 k2)],[(0,some (.row 24 2 n (bD X Y)))],1,[0],61⟩
noncomputable abbrev cpE :Env:=gC cpR (fun _=>0) p8 1
abbrev cpP :List Nat:=[1,1,0,1,0]
abbrev cpI :List Nat:=[1,0,0,1,0,1,0,1,0]
noncomputable abbrev cpF :Func:=Tryz.f146
theorem YY(n:Nat)(X Y:Nat->Int)(K:KC):eL cpR (fun _=>0) p8 2 aBB [.own 0 0 2 n] [some (.row 24 2 n (bD X Y))] K=
 (Br (decide ((↑n:Int)<2)) (K (SV.own 0 0 2 n) [some (SB.row 24 2 n (bD X Y))] []) (∃q_,bS cpE (aB cpR 1) cpF cpP 0 1 K q_ {tmps:=[(0,SV.own 0 0 2 n),(2,SV.nils),(3,SV.int .i64 1)],store:=[(0,some (SB.row 24 2 n (bD X Y)))],nxt:=1,dirty:=[0],nt:=61})):=by kernel_rfl
theorem XF(n:Nat)(X Y:Nat->Int)(k:Nat)(K:Ex->St->Prop):aF cpE (aB cpR 1) cpF cpP 0 K (cpS n X Y k)=
 (Br (decide ((↑k:Int)<(↑n:Int))) (Br (decide (0<=(↑k:Int))&&decide ((↑k:Int)<(↑n:Int))) (Br (decide (0+(↑k:Int).toNat<n)) (Br (decide (0<=IntKind.i64.wrap ((↑k:Int) - 1))&&decide (IntKind.i64.wrap ((↑k:Int) - 1)<(↑n:Int))) (Br (decide (0+(IntKind.i64.wrap ((↑k:Int) - 1)).toNat<n)) (Br (X (0+(↑k:Int).toNat)==X (0+(IntKind.i64.wrap ((↑k:Int) - 1)).toNat)&&Y (0+(↑k:Int).toNat)==Y (0+(IntKind.i64.wrap ((↑k:Int) - 1)).toNat)) (Br (decide (0<=(↑k:Int))&&(decide ((↑k:Int)<=(↑n:Int))&&decide ((↑n:Int)<=(↑n:Int)))&&decide (n<9223372036854775808)) (Br (decide ((↑k:Int)<(↑n:Int))) (∃q_,iter (aF cpE (aB cpR 1) cpF (cpP++[0]++cpI) 2) (jO cpE (aB cpR 1) cpF cpP 0 cpI K) q_ {tmps:=[(0,SV.own 0 0 2 n),(2,SV.nils),(3,SV.int .i64 (↑k:Int)),(4,SV.own 0 (0+(↑k:Int).toNat) 2 ((↑n:Int).toNat - (↑k:Int).toNat)),(5,SV.int .i64 1)],store:=[(0,some (SB.row 24 2 n (bD X Y)))],nxt:=1,dirty:=[0],nt:=61}) (∃q_,iter (aF cpE (aB cpR 1) cpF (cpP++[0]++cpI) 2) (jO cpE (aB cpR 1) cpF cpP 0 cpI K) q_ {tmps:=[(0,SV.own 0 0 2 n),(2,SV.nils),(3,SV.int .i64 (↑k:Int)),(4,SV.ro 0 2 fun (x:Nat)=>[]),(5,SV.int .i64 1)],store:=[(0,some (SB.row 24 2 n (bD X Y)))],nxt:=1,dirty:=[0],nt:=61})) (False)) (K Ex.normal {tmps:=[(0,SV.own 0 0 2 n),(2,SV.nils),(3,SV.int .i64 (IntKind.i64.wrap ((↑k:Int)+1)))],store:=[(0,some (SB.row 24 2 n (bD X Y)))],nxt:=1,dirty:=[0],nt:=61})) (False)) (False)) (False)) (False)) (K (Ex.exit 0) {tmps:=[(0,SV.own 0 0 2 n),(2,SV.nils),(3,SV.int .i64 (↑k:Int))],store:=[(0,some (SB.row 24 2 n (bD X Y)))],nxt:=1,dirty:=[0],nt:=61})):=by kernel_rfl
theorem aGb(n k0:Nat)(X Y:Nat->Int)(k k2:Nat)(K:Ex->St->Prop):aF cpE (aB cpR 1) cpF (cpP++[0]++cpI) 2 K (cpT n k0 X Y k k2)=
 (Br (decide ((↑k2:Int)<(↑(n - k0):Int))) (Br (decide (0<=(↑k2:Int))&&decide ((↑k2:Int)<(↑(n - k0):Int))) (Br (decide (k0+(↑k2:Int).toNat<n)) (Br (decide (0<=IntKind.i64.wrap ((↑k2:Int) - 1))&&decide (IntKind.i64.wrap ((↑k2:Int) - 1)<(↑(n - k0):Int))) (Br (decide (k0+(IntKind.i64.wrap ((↑k2:Int) - 1)).toNat<n)) (Br (!(X (k0+(↑k2:Int).toNat)==X (k0+(IntKind.i64.wrap ((↑k2:Int) - 1)).toNat)&&Y (k0+(↑k2:Int).toNat)==Y (k0+(IntKind.i64.wrap ((↑k2:Int) - 1)).toNat))) (Br (decide (0<=(↑k2:Int))&&decide ((↑k2:Int)<(↑(n - k0):Int))) (Br (decide (k0+(↑k2:Int).toNat<n)) (Br (decide (0<=(↑k:Int))&&decide ((↑k:Int)<(↑n:Int))) (Br (decide (0+(↑k:Int).toNat<n)) (K Ex.normal {tmps:=[(0,SV.own 0 0 2 n),(2,SV.nils),(3,SV.int .i64 (IntKind.i64.wrap ((↑k:Int)+1))),(4,SV.own 0 k0 2 (n - k0)),(5,SV.int .i64 (IntKind.i64.wrap ((↑k2:Int)+1)))],store:=[(0,some (SB.row 24 2 n (bJ (0+(↑k:Int).toNat) [SV.int .i64 (X (k0+(↑k2:Int).toNat)),SV.int .i64 (Y (k0+(↑k2:Int).toNat))] (bD X Y))))],nxt:=1,dirty:=[0],nt:=61}) (False)) (False)) (False)) (False)) (K Ex.normal {tmps:=[(0,SV.own 0 0 2 n),(2,SV.nils),(3,SV.int .i64 (↑k:Int)),(4,SV.own 0 k0 2 (n - k0)),(5,SV.int .i64 (IntKind.i64.wrap ((↑k2:Int)+1)))],store:=[(0,some (SB.row 24 2 n (bD X Y)))],nxt:=1,dirty:=[0],nt:=61})) (False)) (False)) (False)) (False)) (K (Ex.exit 2) {tmps:=[(0,SV.own 0 0 2 n),(2,SV.nils),(3,SV.int .i64 (↑k:Int)),(4,SV.own 0 k0 2 (n - k0)),(5,SV.int .i64 (↑k2:Int))],store:=[(0,some (SB.row 24 2 n (bD X Y)))],nxt:=1,dirty:=[0],nt:=61})):=by kernel_rfl
theorem aCj(n k0:Nat)(X Y:Nat->Int)(k k2:Nat)(K:Ex->St->Prop):jO cpE (aB cpR 1) cpF cpP 0 cpI K (.exit 2) (cpT n k0 X Y k k2)=
 (Br (decide (0<=(↑k:Int))&&(decide ((↑k:Int)<=(↑n:Int))&&decide ((↑n:Int)<=(↑n:Int)))&&decide (n<9223372036854775808)) (Br (decide ((↑k:Int)<(↑n:Int))) (Br (true&&(decide (0<=(↑k:Int))&&decide ((↑k:Int)<=(↑n:Int)))&&decide (n<9223372036854775808)) (Br (decide (0<(↑k:Int))) (K Ex.ret {tmps:=[(0,SV.own 0 0 2 n),(2,SV.own 0 0 2 ((↑k:Int).toNat - 0)),(3,SV.int .i64 (↑k:Int))],store:=[(0,none)],nxt:=1,dirty:=[0],nt:=61}) (K Ex.ret {tmps:=[(0,SV.own 0 0 2 n),(2,SV.ro 0 2 fun (x:Nat)=>[]),(3,SV.int .i64 (↑k:Int))],store:=[(0,none)],nxt:=1,dirty:=[0],nt:=61})) (False)) (Br (true&&(decide (0<=(↑k:Int))&&decide ((↑k:Int)<=(↑n:Int)))&&decide (n<9223372036854775808)) (Br (decide (0<(↑k:Int))) (K Ex.ret {tmps:=[(0,SV.own 0 0 2 n),(2,SV.own 0 0 2 ((↑k:Int).toNat - 0)),(3,SV.int .i64 (↑k:Int))],store:=[(0,some (SB.row 24 2 n (bD X Y)))],nxt:=1,dirty:=[0],nt:=61}) (K Ex.ret {tmps:=[(0,SV.own 0 0 2 n),(2,SV.ro 0 2 fun (x:Nat)=>[]),(3,SV.int .i64 (↑k:Int))],store:=[(0,some (SB.row 24 2 n (bD X Y)))],nxt:=1,dirty:=[0],nt:=61})) (False))) (False)):=by kernel_rfl
theorem ZX(n:Nat)(X Y:Nat->Int)(k:Nat)(K:KC):aE cpE (aB cpR 1) cpF cpP 1 K (.exit 0) (cpS n X Y k)=
 (K (SV.own 0 0 2 n) [some (SB.row 24 2 n (bD X Y))] [0]):=by kernel_rfl
theorem aFo(n m:Nat)(k:Int)(K:KC):aE cpE (aB cpR 1) cpF cpP 1 K .ret ⟨[(0,.own 0 0 2 n),(2,.own 0 0 2 m),(3,.int .i64 k)],[(0,none)],1,[0],61⟩=K (.own 0 0 2 m) [none] [0]:=by kernel_rfl
theorem WI (n k0:Nat) (hn:n<9223372036854775808) (hk0:1<=k0) (K:Ex->St->Prop)
  (hK: ∀m,m<n->K .ret ⟨[(0,.own 0 0 2 n),(2,.own 0 0 2 m),(3,.int .i64 m)],[(0,none)],1,[0],61⟩):
  ∀(f:Nat) (a:Nat×Nat×(Nat->Int)×(Nat->Int)),((k0<=a.1/\a.1<k0+a.2.1)/\1<=a.2.1/\a.2.1<=n - k0)->n - k0 - a.2.1<f->
   iter (aF cpE (aB cpR 1) cpF (cpP++[0]++cpI) 2) (jO cpE (aB cpR 1) cpF cpP 0 cpI K) f (cpT n k0 a.2.2.1 a.2.2.2 a.1 a.2.1):=
 iA (fun a:Nat×Nat×(Nat->Int)×(Nat->Int)=>cpT n k0 a.2.2.1 a.2.2.2 a.1 a.2.1) (fun a=>n - k0 - a.2.1) (fun a=>(k0<=a.1/\a.1<k0+a.2.1)/\1<=a.2.1/\a.2.1<=n - k0)
  (fun a=>by
   obtain ⟨k,k2,X,Y⟩:=a
   rintro ⟨⟨h1,h2⟩,h3,h4⟩ Z hZ
   simp only at h1 h2 h3 h4
   show aF cpE (aB cpR 1) cpF (cpP++[0]++cpI) 2 _ (cpT n k0 X Y k k2)
   rw [aGb,FC h3 (by omega)]
   simp only [Int.toNat_natCast,Nat.zero_add]
   refine Br.of (fun c1=> ?_) fun c1=> ?_
   ·have c1':=of_decide_eq_true c1
    refine Br.of (fun _=>Br.of (fun _=>Br.of (fun _=>Br.of (fun _=>Br.of (fun _=>Br.of (fun _=>Br.of (fun _=>Br.of (fun _=>Br.of (fun _=> ?_) fun c=> ?_) fun c=> ?_) fun c=> ?_) fun c=> ?_) fun _=> ?_) fun c=> ?_) fun c=> ?_) fun c=> ?_) fun c=> ?_
    ·show Z _
     rw [O0,aQ (n:=n) (by omega) hn,aQ (n:=n) (by omega) hn]
     exact hZ (k+1,k2+1,_,_) ⟨⟨by show k0<=k+1;omega,by show k+1<k0+(k2+1);omega⟩,by show 1<=k2+1;omega,by show k2+1<=n - k0;omega⟩ (by show n - k0 - (k2+1)<n - k0 - k2;omega)
    ·have:=of_decide_eq_false c;omega
    ·simp only [Bool.and_eq_false_iff,decide_eq_false_iff_not] at c;omega
    ·have:=of_decide_eq_false c;omega
    ·simp only [Bool.and_eq_false_iff,decide_eq_false_iff_not] at c;omega
    ·show Z _
     rw [aQ (n:=n) (by omega) hn]
     exact hZ (k,k2+1,X,Y) ⟨⟨h1,by show k<k0+(k2+1);omega⟩,by show 1<=k2+1;omega,by show k2+1<=n - k0;omega⟩ (by show n - k0 - (k2+1)<n - k0 - k2;omega)
    ·have:=of_decide_eq_false c;omega
    ·simp only [Bool.and_eq_false_iff,decide_eq_false_iff_not] at c;omega
    ·have:=of_decide_eq_false c;omega
    ·simp only [Bool.and_eq_false_iff,decide_eq_false_iff_not] at c;omega
   ·have c1':=of_decide_eq_false c1
    show jO cpE (aB cpR 1) cpF cpP 0 cpI K (.exit 2) (cpT n k0 X Y k k2)
    rw [aCj]
    simp only [Int.toNat_natCast,Nat.sub_zero]
    refine Br.of (fun _=>Br.of (fun _=>Br.of (fun _=>Br.of (fun _=>hK k (by omega)) fun c=> ?_) fun c=> ?_) fun c=> ?_) fun c=> ?_
    ·have:=of_decide_eq_false c;omega
    ·simp only [Bool.true_and,Bool.and_eq_false_iff,decide_eq_false_iff_not] at c;omega
    ·have:=of_decide_eq_false c;omega
    ·simp only [Bool.and_eq_false_iff,decide_eq_false_iff_not] at c;omega)
def wJ(n:Nat)(X Y:Nat->Int)(K:KC):Prop:=
 Br (J0 X Y n) (∀m,m<n->K (.own 0 0 2 m) [none] [0]) (K (.own 0 0 2 n) [some (.row 24 2 n (bD X Y))] [0])
theorem aFr(n:Nat)(X Y:Nat->Int)(hn:n<9223372036854775808)(h2:2<=n)(K:KC)(hK:wJ n X Y K):eL cpR (fun _=>0) p8 2 aBB [.own 0 0 2 n] [some (.row 24 2 n (bD X Y))] K:=by
 rw [YY]
 unfold wJ at hK
 refine Br.of (fun c=>absurd (of_decide_eq_true c) (by omega)) fun _=>⟨n+1, ?_⟩
 refine iA (fun k:Nat=>cpS n X Y k) (fun k=>n - k) (fun k=>(1<=k/\k<=n)/\ ∀j,j+1<k->RR X Y j=false) (fun k ⟨⟨h1,h3⟩,h4⟩ Z hZ=> ?_) (n+1) 1 ⟨⟨by omega,by omega⟩,fun j hj=>by omega⟩ (by omega)
 show aF cpE (aB cpR 1) cpF cpP 0 _ (cpS n X Y k)
 rw [XF,FC h1 (by omega)]
 simp only [Int.toNat_natCast,Nat.zero_add]
 refine Br.of (fun c1=> ?_) fun c1=> ?_
 ·have c1':=of_decide_eq_true c1
  have hs:(X k==X (k - 1)&&Y k==Y (k - 1))=RR X Y (k - 1):=by unfold RR;rw [Nat.sub_add_cancel h1]
  rw [hs]
  refine Br.of (fun _=>Br.of (fun _=>Br.of (fun _=>Br.of (fun _=>Br.of (fun c2=>Br.of (fun _=>Br.of (fun _=> ?_) fun c=> ?_) fun c=> ?_) fun c2=> ?_) fun c=> ?_) fun c=> ?_) fun c=> ?_) fun c=> ?_
  ·refine ⟨n+1, ?_⟩
   rw [show J0 X Y n=true from wB.2 ⟨k - 1,by omega,c2⟩] at hK
   exact WI n k hn h1 _ (fun m hm=>by
    show aE cpE (aB cpR 1) cpF cpP 1 K .ret _
    rw [aFo];exact hK m hm) (n+1) (k,1,X,Y) ⟨⟨Nat.le_refl _,by show k<k+1;omega⟩,Nat.le_refl _,by show 1<=n - k;omega⟩ (by omega)
  ·have:=of_decide_eq_false c;omega
  ·simp only [Bool.and_eq_false_iff,decide_eq_false_iff_not] at c;omega
  ·show Z _
   rw [aQ (n:=n) (by omega) hn]
   refine hZ (k+1) ⟨⟨by omega,by omega⟩,fun j hj=> ?_⟩ (by omega)
   rcases Nat.lt_or_eq_of_le (Nat.le_of_lt_succ hj) with hj|hj
   ·exact h4 j hj
   ·rw [show j=k - 1 by omega];exact c2
  ·have:=of_decide_eq_false c;omega
  ·simp only [Bool.and_eq_false_iff,decide_eq_false_iff_not] at c;omega
  ·have:=of_decide_eq_false c;omega
  ·simp only [Bool.and_eq_false_iff,decide_eq_false_iff_not] at c;omega
 ·have c1':=of_decide_eq_false c1
  show aE cpE (aB cpR 1) cpF cpP 1 K (.exit 0) (cpS n X Y k)
  rw [ZX]
  rw [show J0 X Y n=false from qM.2 fun j hj=>h4 j (by omega)] at hK
  exact hK
def CX :List SV->List (Option SB)->KC->Prop
 | [.own 0 0 2 n],[some (.row 24 2 n' g)],K=>(pts g/\n'=n/\2<=n)/\wJ n (fun i=>px (g i)) (fun i=>py (g i)) K
 |_,_,_=>False
theorem JE(xs:List SV)(σ:List (Option SB)):Sat Tryz.prog aBB xs σ (CX xs σ):=by
 refine tM (fun K hK=> ?_) fun hx _ K hK=> ?_<;>unfold CX at hK<;>split at hK
 ·obtain ⟨⟨_,_,h⟩,hK⟩:=hK
  unfold wJ at hK
  revert hK
  generalize J0 _ _ _=b
  intro hK
  cases b
  ·exact ⟨_,_,_,hK⟩
  ·exact ⟨_,_,_,hK 0 (by omega)⟩
 ·exact hK.elim
 ·rename_i n n' g _
  obtain ⟨⟨hp,rfl,h⟩,hK⟩:=hK
  have:=aFr n' (fun i=>px (g i)) (fun i=>py (g i)) hx.1 h K hK
  rw [<- yC hp] at this
  exact cA (env:=tab.env p8 (fun _=>0) (fun _=>false)) ⟨tab.htt,p8.ok⟩ tab.mixed (fun n=>bF n cpR) tab.hft 2 _ _ _ K this
 ·exact hK.elim
end Go.Proofs.YtghnfjfkjhbgdaaGreatDoor
namespace Go.Proofs.YtghnfjfkjhbgdaaGreatDoor
open Go.Se
set_option maxRecDepth 100000
theorem UP(n:Nat)(X Y:Nat->Int)(K:KC):run p8 3 142 [.ro n 2 (bD X Y)] [] K=
 (Br (decide ((↑n:Int)<3)) (K (SV.int .i64 42) [] []) (Br (decide ((↑n:Int)>64)) (K (SV.int .i64 42) [] []) ((pts (bD X Y))/\(Br (decide (jU (fun (i:Nat)=>sI (px (bD X Y i)) (py (bD X Y i))) n 0>=0)) (K (SV.int .i64 40) [] []) (K (SV.int .i64 0) [] []))))):=by kernel_rfl
theorem TP(n:Nat)(X Y:Nat->Int):aD Tryz.prog 142 [.ro n 2 (bD X Y)] [] (.int .i64 (nO n X Y)) [] []:=
 aW p8 3 fun _ _ K hK=>by
  rw [UP]
  unfold nO at hK
  refine Br.of (fun c=> ?_) fun c=>Br.of (fun c2=> ?_) fun c2=>⟨fun _=>rfl,Br.of (fun c3=> ?_) fun c3=> ?_⟩
  ·rw [c] at hK;exact hK
  ·rw [c,c2] at hK;exact hK
  ·have c3':i1 (fun i=>sI (X i) (Y i)) n=true:=c3
   rw [c,c2,c3'] at hK;exact hK
  ·have c3':i1 (fun i=>sI (X i) (Y i)) n=false:=c3
   rw [c,c2,c3'] at hK;exact hK
def H9 :List SV->List (Option SB)->KC->Prop
 | [.ro n 2 g],[],K=>pts g/\K (.int .i64 (nO n (fun i=>px (g i)) (fun i=>py (g i)))) [] []
 |_,_,_=>False
theorem O2(xs:List SV)(σ:List (Option SB)):Sat Tryz.prog 142 xs σ (H9 xs σ):=by
 intro K hK
 unfold H9 at hK
 split at hK
 ·obtain ⟨hp,hK⟩:=hK
  refine ⟨_,_,_,hK, ?_⟩
  rw [yC hp];exact TP _ _ _
 ·exact hK.elim
noncomputable def p9 :bU Tryz.prog:=(((p8).add aBB CX JE).add 142 H9 O2).add 141 aBd WU
theorem U6(t:Trk)(K:KC):run p9 4 98 [.agg (aU t)] [] K=
 (Br (decide (60<=t.rate)) (Br (!decide (t.rate<=1024)) (K (SV.iface 91 (SV.ptr 0 0)) [some (SB.cells 98 [SV.int .i64 40,SV.int .i64 0])] []) ((lY (aM t.h) (aM t.g) (eS t) (bT t.lx t.ly) (cB t) (eN t))/\(Br (oC t==0) ((pts (bT t.lx t.ly))/\(Br ((nO t.nl (fun (i:Nat)=>px (bT t.lx t.ly i)) fun (i:Nat)=>py (bT t.lx t.ly i)) !=0) (K (SV.iface 91 (SV.ptr 0 0)) [some (SB.cells 98 [SV.int .i64 (nO t.nl (fun (i:Nat)=>px (bT t.lx t.ly i)) fun (i:Nat)=>py (bT t.lx t.ly i)),SV.int .i64 0])] []) ((pts (bT t.lx t.ly))/\(Br (!decide (jU (fun (i:Nat)=>uC (px (bT t.lx t.ly i)) (py (bT t.lx t.ly i))) t.nl 0>=0)) (K SV.nilI [] []) (K (SV.iface 91 (SV.ptr 0 0)) [some (SB.cells 98 [SV.int .i64 40,SV.int .i64 0])] []))))) (Br (oC t !=0) (K (SV.iface 91 (SV.ptr 0 0)) [some (SB.cells 98 [SV.int .i64 (oC t),SV.int .i64 0])] []) ((pts (bT t.lx t.ly))/\(Br ((nO t.nl (fun (i:Nat)=>px (bT t.lx t.ly i)) fun (i:Nat)=>py (bT t.lx t.ly i)) !=0) (K (SV.iface 91 (SV.ptr 0 0)) [some (SB.cells 98 [SV.int .i64 (nO t.nl (fun (i:Nat)=>px (bT t.lx t.ly i)) fun (i:Nat)=>py (bT t.lx t.ly i)),SV.int .i64 0])] []) ((pts (bT t.lx t.ly))/\(Br (!decide (jU (fun (i:Nat)=>uC (px (bT t.lx t.ly i)) (py (bT t.lx t.ly i))) t.nl 0>=0)) (K SV.nilI [] []) (K (SV.iface 91 (SV.ptr 0 0)) [some (SB.cells 98 [SV.int .i64 40,SV.int .i64 0])] []))))))))) (K (SV.iface 91 (SV.ptr 0 0)) [some (SB.cells 98 [SV.int .i64 40,SV.int .i64 0])] [])):=by kernel_rfl
def qT(c:Int×Int)(K:KC):Prop:=Br (c.1==0) (K .nilI [] []) (K (.iface 91 (.ptr 0 0)) [some (.cells 98 [.int .i64 c.1,.int .i64 c.2])] [])
theorem aDv{x:Int}(h:(x !=0)=true):(x==0)=false:=by rw [bne_iff_ne] at h;exact beq_false_of_ne h
theorem aGe{x:Int}(h:(x !=0)=false):x=0:=by
 by_cases hx:x=0
 ·exact hx
 ·rw [bne_iff_ne.2 hx] at h;cases h
theorem OX(t:Trk)(K:KC)(hK:qT (iI t,0) K):run p9 4 98 [.agg (aU t)] [] K:=by
 rw [U6]
 unfold qT iI SA at hK
 refine Br.of (fun c=>Br.of (fun c1=> ?_) fun c1=>⟨gJ t, ?_⟩) fun c=> ?_
 ·rw [c,show decide (t.rate<=1024)=false by rw [Bool.not_eq_true'] at c1;exact c1] at hK;exact hK
 ·rw [c,show decide (t.rate<=1024)=true by rw [Bool.not_eq_false'] at c1;exact c1] at hK
  simp only [Bool.and_self,Bool.not_true,cond_false] at hK
  refine Br.of (fun c2=> ?_) fun c2=>Br.of (fun c3=> ?_) fun c3=> ?_
  ·have c2':=eq_of_beq c2
   rw [c2'] at hK
   simp only [bne_self_eq_false,cond_false] at hK
   refine ⟨fun _=>rfl,Br.of (fun c4=> ?_) fun c4=>⟨fun _=>rfl,Br.of (fun c5=> ?_) fun c5=> ?_⟩⟩
   ·have c4':(nO t.nl t.lx t.ly !=0)=true:=c4
    rw [c4'] at hK
    simp only [cond_true] at hK
    rw [aDv c4'] at hK
    exact hK
   ·have c4':(nO t.nl t.lx t.ly !=0)=false:=c4
    have c5':G8 t=false:=by rw [Bool.not_eq_true'] at c5;exact c5
    rw [c4',c5'] at hK
    exact hK
   ·have c4':(nO t.nl t.lx t.ly !=0)=false:=c4
    have c5':G8 t=true:=by rw [Bool.not_eq_false'] at c5;exact c5
    rw [c4',c5'] at hK
    exact hK
  ·rw [c3] at hK
   simp only [cond_true] at hK
   rw [c2] at hK
   exact hK
  ·rw [aGe c3] at c2;cases c2
 ·rw [c] at hK;exact hK
def zQ :List (Nat×e9):=[(0,⟨[1,2,13,14,15],[0,1],[1,2,3,4,5],2,[(2,1)]⟩)]
def aAR(t:Trk)(i:Int):St:=⟨[(1,.ptr 0 0),(2,.nilI),(13,.ro t.nr 1 (cB t)),(14,.int .i64 t.nr),(15,.int .i64 i)],[(0,some (.cells 34 (aU t))),(1,none)],2,[1,2,3,4,5],49⟩
def aEq(t:Trk)(c i:Int):St:=⟨[(1,.ptr 0 0),(2,.iface 91 (.ptr 1 0)),(13,.ro t.nr 1 (cB t)),(14,.int .i64 t.nr),(15,.int .i64 i)],[(0,some (.cells 34 (aU t))),(1,some (.cells 98 [.int .i64 c,.int .i64 i]))],2,[1,2,3,4,5],49⟩
noncomputable abbrev LV :Env:=gC zQ (fun _=>0) p9 3
noncomputable abbrev ME :Func:=Tryz.f99
abbrev tZ :List Nat:=[1,1,0,1,0]
theorem UD(t:Trk)(K:KC):eL zQ (fun _=>0) p9 4 99 [.agg (aU t)] [] K=
 (Br (decide ((↑t.nr:Int)>16)) (K (SV.iface 91 (SV.ptr 0 0)) [some (SB.cells 98 [SV.int .i64 42,SV.int .i64 0])] []) (∃q_,bS LV (aB zQ 0) ME tZ 0 0 K q_ {tmps:=[(1,SV.ptr 0 0),(2,SV.nilI),(13,SV.ro t.nr 1 (cB t)),(14,SV.int .i64 (↑t.nr:Int)),(15,SV.int .i64 0)],store:=[(0,some (SB.cells 34 (aU t))),(1,none)],nxt:=2,dirty:=[1,2,3,4,5],nt:=49})):=by kernel_rfl
theorem FK(t:Trk)(i:Nat)(K:Ex->St->Prop):aF LV (aB zQ 0) ME tZ 0 K (aAR t i)=
 (Br (decide ((↑i:Int)<(↑t.nr:Int))) (Br (decide (0<=(↑i:Int))&&decide ((↑i:Int)<(↑t.nr:Int))) (Br (decide (2<=(↑(t.rn (↑i:Int).toNat):Int))) (Br (!decide ((↑(t.rn (↑i:Int).toNat):Int)<=64)) (K Ex.ret {tmps:=[(1,SV.ptr 0 0),(2,SV.iface 91 (SV.ptr 1 0)),(13,SV.ro t.nr 1 (cB t)),(14,SV.int .i64 (↑t.nr:Int)),(15,SV.int .i64 (↑i:Int))],store:=[(0,some (SB.cells 34 (aU t))),(1,some (SB.cells 98 [SV.int .i64 42,SV.int .i64 (↑i:Int)]))],nxt:=2,dirty:=[1,2,3,4,5],nt:=49}) ((pts (bT (t.rx (↑i:Int).toNat) (t.ry (↑i:Int).toNat)))/\(Br (decide (jU (fun (i_1:Nat)=>uC (px (bT (t.rx (↑i:Int).toNat) (t.ry (↑i:Int).toNat) i_1)) (py (bT (t.rx (↑i:Int).toNat) (t.ry (↑i:Int).toNat) i_1))) (t.rn (↑i:Int).toNat) 0>=0)) (K Ex.ret {tmps:=[(1,SV.ptr 0 0),(2,SV.iface 91 (SV.ptr 1 0)),(13,SV.ro t.nr 1 (cB t)),(14,SV.int .i64 (↑t.nr:Int)),(15,SV.int .i64 (↑i:Int))],store:=[(0,some (SB.cells 34 (aU t))),(1,some (SB.cells 98 [SV.int .i64 40,SV.int .i64 (↑i:Int)]))],nxt:=2,dirty:=[1,2,3,4,5],nt:=49}) ((pts (bT (t.rx (↑i:Int).toNat) (t.ry (↑i:Int).toNat)))/\((0<t.rn (↑i:Int).toNat/\t.rn (↑i:Int).toNat<=1000000)/\((pts (bT (t.rx (↑i:Int).toNat) (t.ry (↑i:Int).toNat))/\t.rn (↑i:Int).toNat=t.rn (↑i:Int).toNat/\2<=t.rn (↑i:Int).toNat)/\(Br (J0 (fun (i_1:Nat)=>px (bT (t.rx (↑i:Int).toNat) (t.ry (↑i:Int).toNat) i_1)) (fun (i_1:Nat)=>py (bT (t.rx (↑i:Int).toNat) (t.ry (↑i:Int).toNat) i_1)) (t.rn (↑i:Int).toNat)) (∀(m:Nat),∀(_:m<t.rn (↑i:Int).toNat),Br (decide ((↑m:Int)<(↑(t.rn (↑i:Int).toNat):Int))) (K Ex.ret {tmps:=[(1,SV.ptr 0 0),(2,SV.iface 91 (SV.ptr 1 0)),(13,SV.ro t.nr 1 (cB t)),(14,SV.int .i64 (↑t.nr:Int)),(15,SV.int .i64 (↑i:Int))],store:=[(0,some (SB.cells 34 (aU t))),(1,some (SB.cells 98 [SV.int .i64 43,SV.int .i64 (↑i:Int)]))],nxt:=2,dirty:=[1,2,3,4,5],nt:=49}) (K Ex.normal {tmps:=[(1,SV.ptr 0 0),(2,SV.nilI),(13,SV.ro t.nr 1 (cB t)),(14,SV.int .i64 (↑t.nr:Int)),(15,SV.int .i64 (IntKind.i64.wrap ((↑i:Int)+1)))],store:=[(0,some (SB.cells 34 (aU t))),(1,none)],nxt:=2,dirty:=[1,2,3,4,5],nt:=49})) (Br (decide ((↑(t.rn (↑i:Int).toNat):Int)<(↑(t.rn (↑i:Int).toNat):Int))) (K Ex.ret {tmps:=[(1,SV.ptr 0 0),(2,SV.iface 91 (SV.ptr 1 0)),(13,SV.ro t.nr 1 (cB t)),(14,SV.int .i64 (↑t.nr:Int)),(15,SV.int .i64 (↑i:Int))],store:=[(0,some (SB.cells 34 (aU t))),(1,some (SB.cells 98 [SV.int .i64 43,SV.int .i64 (↑i:Int)]))],nxt:=2,dirty:=[1,2,3,4,5],nt:=49}) (K Ex.normal {tmps:=[(1,SV.ptr 0 0),(2,SV.nilI),(13,SV.ro t.nr 1 (cB t)),(14,SV.int .i64 (↑t.nr:Int)),(15,SV.int .i64 (IntKind.i64.wrap ((↑i:Int)+1)))],store:=[(0,some (SB.cells 34 (aU t))),(1,none)],nxt:=2,dirty:=[1,2,3,4,5],nt:=49}))))))))) (K Ex.ret {tmps:=[(1,SV.ptr 0 0),(2,SV.iface 91 (SV.ptr 1 0)),(13,SV.ro t.nr 1 (cB t)),(14,SV.int .i64 (↑t.nr:Int)),(15,SV.int .i64 (↑i:Int))],store:=[(0,some (SB.cells 34 (aU t))),(1,some (SB.cells 98 [SV.int .i64 42,SV.int .i64 (↑i:Int)]))],nxt:=2,dirty:=[1,2,3,4,5],nt:=49})) (False)) (K (Ex.exit 0) {tmps:=[(1,SV.ptr 0 0),(2,SV.nilI),(13,SV.ro t.nr 1 (cB t)),(14,SV.int .i64 (↑t.nr:Int)),(15,SV.int .i64 (↑i:Int))],store:=[(0,some (SB.cells 34 (aU t))),(1,none)],nxt:=2,dirty:=[1,2,3,4,5],nt:=49})):=by kernel_rfl
theorem aCQ(t:Trk)(c i:Int)(K:KC):aE LV (aB zQ 0) ME tZ 0 K .ret (aEq t c i)=
 (K (SV.iface 91 (SV.ptr 0 0)) [some (SB.cells 98 [SV.int .i64 c,SV.int .i64 i])] []):=by kernel_rfl
theorem TW(t:Trk)(i:Int)(K:KC):aE LV (aB zQ 0) ME tZ 0 K (.exit 0) (aAR t i)=
 (K SV.nilI [] []):=by kernel_rfl
theorem Q3{c:Nat->Int}{n i:Nat}{v:Int}{K:KC}(hK:qT (t6 c (n - i) i) K)(hi:i<n)(h:c i=v)(hv:(v !=0)=true):K (.iface 91 (.ptr 0 0)) [some (.cells 98 [.int .i64 v,.int .i64 i])] []:=by
 rw [aCA hi h hv] at hK
 unfold qT at hK
 rw [aDv hv] at hK
 exact hK
theorem VG(t:Trk)(hn:t.nr<9223372036854775808)(K:KC)(hK:qT (oQ t) K):eL zQ (fun _=>0) p9 4 99 [.agg (aU t)] [] K:=by
 rw [UD]
 unfold oQ at hK
 refine Br.of (fun c=> ?_) fun c=> ?_
 ·rw [c] at hK;exact hK
 rw [c] at hK
 simp only [cond_false] at hK
 refine ⟨t.nr+1,jC (fun i:Nat=>aAR t i) t.nr (fun i=>qT (t6 (AN t) (t.nr - i) i) K) (fun i hi hI X hX=> ?_) (fun hI X=> ?_) hK⟩
 ·have hret: ∀v,AN t i=v->(v !=0)=true->fQ X (aE LV (aB zQ 0) ME tZ 0 K) .ret (aEq t v i):=fun v h1 h2=>by
   show aE LV (aB zQ 0) ME tZ 0 K .ret (aEq t v i)
   rw [aCQ]
   exact Q3 hI hi h1 h2
  have hnext:AN t i=0->fQ X (aE LV (aB zQ 0) ME tZ 0 K) .normal (aAR t (i+1:Nat)):=fun h=>hX (by rw [L5 hi h] at hI;exact hI)
  rw [FK,aQ hi hn]
  simp only [Int.toNat_natCast]
  unfold AN at hret hnext
  refine Br.of (fun _=>Br.of (fun _=>Br.of (fun c1=>Br.of (fun c2=>hret 42 ?_ rfl) fun c2=>⟨fun _=>rfl,Br.of (fun c3=>hret 40 ?_ rfl) fun c3=>⟨fun _=>rfl, ?_, ?_, ?_⟩⟩) fun c1=>hret 42 ?_ rfl) fun c=> ?_) fun c=> ?_
  ·rw [c1,show decide ((t.rn i:Int)<=64)=false by rw [Bool.not_eq_true'] at c2;exact c2];rfl
  ·have c3':i1 (fun k=>uC (t.rx i k) (t.ry i k)) (t.rn i)=true:=c3
   rw [c1,show decide ((t.rn i:Int)<=64)=true by rw [Bool.not_eq_false'] at c2;exact c2,c3'];rfl
  ·have:=of_decide_eq_true c1
   rw [Bool.not_eq_false'] at c2
   have:=of_decide_eq_true c2
   omega
  ·have:=of_decide_eq_true c1
   exact ⟨fun _=>rfl,by trivial,by omega⟩
  ·have c3':i1 (fun k=>uC (t.rx i k) (t.ry i k)) (t.rn i)=false:=c3
   rw [c1,show decide ((t.rn i:Int)<=64)=true by rw [Bool.not_eq_false'] at c2;exact c2,c3'] at hret hnext
   refine Br.of (fun c4 m hm=>Br.of (fun _=> ?_) fun c=> ?_) fun c4=>Br.of (fun c=> ?_) fun _=> ?_
   ·have c4':J0 (t.rx i) (t.ry i) (t.rn i)=true:=c4
    exact hret 43 (by rw [c4'];rfl) rfl
   ·have:=of_decide_eq_false c;omega
   ·have:=of_decide_eq_true c;omega
   ·have c4':J0 (t.rx i) (t.ry i) (t.rn i)=false:=c4
    exact hnext (by rw [c4'];rfl)
  ·rw [c1];rfl
  ·simp only [Bool.and_eq_false_iff,decide_eq_false_iff_not] at c;omega
  ·have:=of_decide_eq_false c;omega
 ·rw [FK]
  refine Br.of (fun c=>absurd (of_decide_eq_true c) (by omega)) fun _=> ?_
  show aE LV (aB zQ 0) ME tZ 0 K (.exit 0) (aAR t t.nr)
  rw [TW]
  rw [Nat.sub_self] at hI
  exact hI
def zP :List (Nat×e9):=[(0,⟨[1,2,14,15,16],[0,1],[1,2,3,4,5],2,[(2,1)]⟩)]
def ZM(t:Trk)(i:Int):St:=⟨[(1,.ptr 0 0),(2,.nilI),(14,.ro t.nt 5 (eN t)),(15,.int .i64 t.nt),(16,.int .i64 i)],[(0,some (.cells 34 (aU t))),(1,none)],2,[1,2,3,4,5],45⟩
def aFi(t:Trk)(c i:Int):St:=⟨[(1,.ptr 0 0),(2,.iface 91 (.ptr 1 0)),(14,.ro t.nt 5 (eN t)),(15,.int .i64 t.nt),(16,.int .i64 i)],[(0,some (.cells 34 (aU t))),(1,some (.cells 98 [.int .i64 c,.int .i64 i]))],2,[1,2,3,4,5],45⟩
noncomputable abbrev I0 :Env:=gC zP (fun _=>0) p9 3
noncomputable abbrev LE :Func:=Tryz.f100
theorem SH(t:Trk)(K:KC):eL zP (fun _=>0) p9 4 100 [.agg (aU t)] [] K=
 (Br (decide (1<=(↑t.nt:Int))) (Br (!decide ((↑t.nt:Int)<=16)) (K (SV.iface 91 (SV.ptr 0 0)) [some (SB.cells 98 [SV.int .i64 42,SV.int .i64 0])] []) (∃q_,bS I0 (aB zP 0) LE tZ 0 0 K q_ {tmps:=[(1,SV.ptr 0 0),(2,SV.nilI),(14,SV.ro t.nt 5 (eN t)),(15,SV.int .i64 (↑t.nt:Int)),(16,SV.int .i64 0)],store:=[(0,some (SB.cells 34 (aU t))),(1,none)],nxt:=2,dirty:=[1,2,3,4,5],nt:=45})) (K (SV.iface 91 (SV.ptr 0 0)) [some (SB.cells 98 [SV.int .i64 42,SV.int .i64 0])] [])):=by kernel_rfl
theorem FQ(t:Trk)(i:Nat)(K:Ex->St->Prop):aF I0 (aB zP 0) LE tZ 0 K (ZM t i)=
 (Br (decide ((↑i:Int)<(↑t.nt:Int))) (Br (decide (0<=(↑i:Int))&&decide ((↑i:Int)<(↑t.nt:Int))) (Br (uC (t.ax (↑i:Int).toNat) (t.ay (↑i:Int).toNat)) (K Ex.ret {tmps:=[(1,SV.ptr 0 0),(2,SV.iface 91 (SV.ptr 1 0)),(14,SV.ro t.nt 5 (eN t)),(15,SV.int .i64 (↑t.nt:Int)),(16,SV.int .i64 (↑i:Int))],store:=[(0,some (SB.cells 34 (aU t))),(1,some (SB.cells 98 [SV.int .i64 40,SV.int .i64 (↑i:Int)]))],nxt:=2,dirty:=[1,2,3,4,5],nt:=45}) (Br (uC (t.bx (↑i:Int).toNat) (t.sb (↑i:Int).toNat)) (K Ex.ret {tmps:=[(1,SV.ptr 0 0),(2,SV.iface 91 (SV.ptr 1 0)),(14,SV.ro t.nt 5 (eN t)),(15,SV.int .i64 (↑t.nt:Int)),(16,SV.int .i64 (↑i:Int))],store:=[(0,some (SB.cells 34 (aU t))),(1,some (SB.cells 98 [SV.int .i64 40,SV.int .i64 (↑i:Int)]))],nxt:=2,dirty:=[1,2,3,4,5],nt:=45}) (Br (t.ax (↑i:Int).toNat==t.bx (↑i:Int).toNat&&t.ay (↑i:Int).toNat==t.sb (↑i:Int).toNat) (K Ex.ret {tmps:=[(1,SV.ptr 0 0),(2,SV.iface 91 (SV.ptr 1 0)),(14,SV.ro t.nt 5 (eN t)),(15,SV.int .i64 (↑t.nt:Int)),(16,SV.int .i64 (↑i:Int))],store:=[(0,some (SB.cells 34 (aU t))),(1,some (SB.cells 98 [SV.int .i64 43,SV.int .i64 (↑i:Int)]))],nxt:=2,dirty:=[1,2,3,4,5],nt:=45}) (K Ex.normal {tmps:=[(1,SV.ptr 0 0),(2,SV.nilI),(14,SV.ro t.nt 5 (eN t)),(15,SV.int .i64 (↑t.nt:Int)),(16,SV.int .i64 (IntKind.i64.wrap ((↑i:Int)+1)))],store:=[(0,some (SB.cells 34 (aU t))),(1,none)],nxt:=2,dirty:=[1,2,3,4,5],nt:=45})))) (False)) (K (Ex.exit 0) {tmps:=[(1,SV.ptr 0 0),(2,SV.nilI),(14,SV.ro t.nt 5 (eN t)),(15,SV.int .i64 (↑t.nt:Int)),(16,SV.int .i64 (↑i:Int))],store:=[(0,some (SB.cells 34 (aU t))),(1,none)],nxt:=2,dirty:=[1,2,3,4,5],nt:=45})):=by kernel_rfl
theorem aBw(t:Trk)(c i:Int)(K:KC):aE I0 (aB zP 0) LE tZ 0 K .ret (aFi t c i)=
 (K (SV.iface 91 (SV.ptr 0 0)) [some (SB.cells 98 [SV.int .i64 c,SV.int .i64 i])] []):=by kernel_rfl
theorem U5(t:Trk)(i:Int)(K:KC):aE I0 (aB zP 0) LE tZ 0 K (.exit 0) (ZM t i)=
 (K SV.nilI [] []):=by kernel_rfl
theorem U3(t:Trk)(hn:t.nt<9223372036854775808)(K:KC)(hK:qT (nY t) K):eL zP (fun _=>0) p9 4 100 [.agg (aU t)] [] K:=by
 rw [SH]
 unfold nY at hK
 refine Br.of (fun c=>Br.of (fun c1=> ?_) fun c1=> ?_) fun c=> ?_
 ·rw [c,show decide ((t.nt:Int)<=16)=false by rw [Bool.not_eq_true'] at c1;exact c1] at hK;exact hK
 ·rw [c,show decide ((t.nt:Int)<=16)=true by rw [Bool.not_eq_false'] at c1;exact c1] at hK
  simp only [Bool.and_self,Bool.not_true,cond_false] at hK
  refine ⟨t.nt+1,jC (fun i:Nat=>ZM t i) t.nt (fun i=>qT (t6 (KQ t) (t.nt - i) i) K) (fun i hi hI X hX=> ?_) (fun hI X=> ?_) hK⟩
  ·have hret: ∀v,KQ t i=v->(v !=0)=true->fQ X (aE I0 (aB zP 0) LE tZ 0 K) .ret (aFi t v i):=fun v h1 h2=>by
    show aE I0 (aB zP 0) LE tZ 0 K .ret (aFi t v i)
    rw [aBw]
    exact Q3 hI hi h1 h2
   have hnext:KQ t i=0->fQ X (aE I0 (aB zP 0) LE tZ 0 K) .normal (ZM t (i+1:Nat)):=fun h=>hX (by rw [L5 hi h] at hI;exact hI)
   rw [FQ,aQ hi hn]
   simp only [Int.toNat_natCast]
   unfold KQ at hret hnext
   refine Br.of (fun _=>Br.of (fun _=>Br.of (fun c1=>hret 40 ?_ rfl) fun c1=>Br.of (fun c2=>hret 40 ?_ rfl) fun c2=>Br.of (fun c3=>hret 43 ?_ rfl) fun c3=>hnext ?_) fun c=> ?_) fun c=> ?_
   ·rw [c1];rfl
   ·rw [c1,c2];rfl
   ·rw [c1,c2,c3];rfl
   ·rw [c1,c2,c3];rfl
   ·simp only [Bool.and_eq_false_iff,decide_eq_false_iff_not] at c;omega
   ·have:=of_decide_eq_false c;omega
  ·rw [FQ]
   refine Br.of (fun c=>absurd (of_decide_eq_true c) (by omega)) fun _=> ?_
   show aE I0 (aB zP 0) LE tZ 0 K (.exit 0) (ZM t t.nt)
   rw [U5]
   rw [Nat.sub_self] at hI
   exact hI
 ·rw [c] at hK;exact hK
end Go.Proofs.YtghnfjfkjhbgdaaGreatDoor
namespace Go.Proofs.YtghnfjfkjhbgdaaGreatDoor
open Go.Se
set_option maxRecDepth 100000
def tbR :List (Nat×e9):=[(0,⟨[3,8,9,10],[1],[1,2,3,4,5],2,[(3,1)]⟩),(2,⟨[3,4,5,21,22,8,9,10],[1],[1,2,3,4,5],2,[(3,1)]⟩)]
def tbS(t:Trk)(o:SV)(b:Option SB)(i:Int):St:=⟨[(3,o),(8,.ro t.nr 1 (cB t)),(9,.int .i64 t.nr),(10,.int .i64 i)],[(1,b)],2,[1,2,3,4,5],42⟩
def tbT(t:Trk)(o:SV)(b:Option SB)(i:Int)(r:Nat)(X Y:Nat->Int)(n k:Int):St:=⟨[(3,o),(4,.int .i64 i),(5,.ro r 2 (bD X Y)),(21,.int .i64 n),(22,.int .i64 k),(8,.ro t.nr 1 (cB t)),(9,.int .i64 t.nr),(10,.int .i64 i)],[(1,b)],2,[1,2,3,4,5],42⟩
noncomputable abbrev tbE :Env:=gC tbR (fun _=>0) p9 1
noncomputable abbrev tbF :Func:=Tryz.f148
abbrev tbP :List Nat:=[1,1,0,1,0]
abbrev tbI :List Nat:=[1,1,0,0,1,1,0]
abbrev HU :TypeId:=123
theorem ZZ(t:Trk)(K:KC):eL tbR (fun _=>0) p9 2 148 [.agg (aU t)] [] K=
 (∃q_,bS tbE (aB tbR 0) tbF tbP 0 0 K q_ {tmps:=[(3,SV.nils),(8,SV.ro t.nr 1 (cB t)),(9,SV.int .i64 (↑t.nr:Int)),(10,SV.int .i64 0)],store:=[(1,none)],nxt:=2,dirty:=[1,2,3,4,5],nt:=42}):=by kernel_rfl
theorem TF(t:Trk)(i:Nat)(K:Ex->St->Prop):aF tbE (aB tbR 0) tbF tbP 0 K (tbS t .nils none i)=
 (Br (decide ((↑i:Int)<(↑t.nr:Int))) (Br (decide (0<=(↑i:Int))&&decide ((↑i:Int)<(↑t.nr:Int))) (Br (true&&(decide (0<=if 0>IntKind.i64.wrap ((↑(t.rn (↑i:Int).toNat):Int) - 1) then 0 else IntKind.i64.wrap ((↑(t.rn (↑i:Int).toNat):Int) - 1))&&decide ((if 0>IntKind.i64.wrap ((↑(t.rn (↑i:Int).toNat):Int) - 1) then 0 else IntKind.i64.wrap ((↑(t.rn (↑i:Int).toNat):Int) - 1))<=(↑(t.rn (↑i:Int).toNat):Int)))) (∃q_,iter (aF tbE (aB tbR 0) tbF (tbP++[0]++tbI) 2) (jO tbE (aB tbR 0) tbF tbP 0 tbI K) q_ {tmps:=[(3,SV.nils),(4,SV.int .i64 (↑i:Int)),(5,SV.ro (t.rn (↑i:Int).toNat) 2 (bT (t.rx (↑i:Int).toNat) (t.ry (↑i:Int).toNat))),(21,SV.int .i64 (↑((if 0>IntKind.i64.wrap ((↑(t.rn (↑i:Int).toNat):Int) - 1) then 0 else IntKind.i64.wrap ((↑(t.rn (↑i:Int).toNat):Int) - 1)).toNat - 0):Int)),(22,SV.int .i64 0),(8,SV.ro t.nr 1 (cB t)),(9,SV.int .i64 (↑t.nr:Int)),(10,SV.int .i64 (↑i:Int))],store:=[(1,none)],nxt:=2,dirty:=[1,2,3,4,5],nt:=42}) (False)) (False)) (K (Ex.exit 0) {tmps:=[(3,SV.nils),(8,SV.ro t.nr 1 (cB t)),(9,SV.int .i64 (↑t.nr:Int)),(10,SV.int .i64 (↑i:Int))],store:=[(1,none)],nxt:=2,dirty:=[1,2,3,4,5],nt:=42})):=by kernel_rfl
theorem VH(t:Trk)(m:Nat)(g:Nat->List SV)(i:Nat)(K:Ex->St->Prop):aF tbE (aB tbR 0) tbF tbP 0 K (tbS t (.own 1 0 5 m) (some (.row 123 5 m g)) i)=
 (Br (decide ((↑i:Int)<(↑t.nr:Int))) (Br (decide (0<=(↑i:Int))&&decide ((↑i:Int)<(↑t.nr:Int))) (Br (true&&(decide (0<=if 0>IntKind.i64.wrap ((↑(t.rn (↑i:Int).toNat):Int) - 1) then 0 else IntKind.i64.wrap ((↑(t.rn (↑i:Int).toNat):Int) - 1))&&decide ((if 0>IntKind.i64.wrap ((↑(t.rn (↑i:Int).toNat):Int) - 1) then 0 else IntKind.i64.wrap ((↑(t.rn (↑i:Int).toNat):Int) - 1))<=(↑(t.rn (↑i:Int).toNat):Int)))) (∃q_,iter (aF tbE (aB tbR 0) tbF (tbP++[0]++tbI) 2) (jO tbE (aB tbR 0) tbF tbP 0 tbI K) q_ {tmps:=[(3,SV.own 1 0 5 m),(4,SV.int .i64 (↑i:Int)),(5,SV.ro (t.rn (↑i:Int).toNat) 2 (bT (t.rx (↑i:Int).toNat) (t.ry (↑i:Int).toNat))),(21,SV.int .i64 (↑((if 0>IntKind.i64.wrap ((↑(t.rn (↑i:Int).toNat):Int) - 1) then 0 else IntKind.i64.wrap ((↑(t.rn (↑i:Int).toNat):Int) - 1)).toNat - 0):Int)),(22,SV.int .i64 0),(8,SV.ro t.nr 1 (cB t)),(9,SV.int .i64 (↑t.nr:Int)),(10,SV.int .i64 (↑i:Int))],store:=[(1,some (SB.row 123 5 m g))],nxt:=2,dirty:=[1,2,3,4,5],nt:=42}) (False)) (False)) (K (Ex.exit 0) {tmps:=[(3,SV.own 1 0 5 m),(8,SV.ro t.nr 1 (cB t)),(9,SV.int .i64 (↑t.nr:Int)),(10,SV.int .i64 (↑i:Int))],store:=[(1,some (SB.row 123 5 m g))],nxt:=2,dirty:=[1,2,3,4,5],nt:=42})):=by kernel_rfl
theorem aEf(t:Trk)(i r:Nat)(X Y:Nat->Int)(n k:Nat)(K:Ex->St->Prop):aF tbE (aB tbR 0) tbF (tbP++[0]++tbI) 2 K (tbT t .nils none i r X Y n k)=
 (Br (decide ((↑k:Int)<(↑n:Int))) (Br (decide (0<=(↑k:Int))&&decide ((↑k:Int)<(↑r:Int))) (Br (decide (0<=IntKind.i64.wrap ((↑k:Int)+1))&&decide (IntKind.i64.wrap ((↑k:Int)+1)<(↑r:Int))) (K Ex.normal {tmps:=[(3,SV.own 1 0 5 1),(4,SV.int .i64 (↑i:Int)),(5,SV.ro r 2 (bD X Y)),(21,SV.int .i64 (↑n:Int)),(22,SV.int .i64 (IntKind.i64.wrap ((↑k:Int)+1))),(8,SV.ro t.nr 1 (cB t)),(9,SV.int .i64 (↑t.nr:Int)),(10,SV.int .i64 (↑i:Int))],store:=[(1,some (SB.row 123 5 1 fun (i_1:Nat)=>cut [SV.int .i64 (X (↑k:Int).toNat),SV.int .i64 (Y (↑k:Int).toNat),SV.int .i64 (X (IntKind.i64.wrap ((↑k:Int)+1)).toNat),SV.int .i64 (Y (IntKind.i64.wrap ((↑k:Int)+1)).toNat),SV.int .i64 (↑i:Int)] (i_1*5) 5))],nxt:=2,dirty:=[1,2,3,4,5],nt:=42}) (False)) (False)) (K (Ex.exit 2) {tmps:=[(3,SV.nils),(4,SV.int .i64 (↑i:Int)),(5,SV.ro r 2 (bD X Y)),(21,SV.int .i64 (↑n:Int)),(22,SV.int .i64 (↑k:Int)),(8,SV.ro t.nr 1 (cB t)),(9,SV.int .i64 (↑t.nr:Int)),(10,SV.int .i64 (↑i:Int))],store:=[(1,none)],nxt:=2,dirty:=[1,2,3,4,5],nt:=42})):=by kernel_rfl
theorem aEj(t:Trk)(m:Nat)(g:Nat->List SV)(i r:Nat)(X Y:Nat->Int)(n k:Nat)(K:Ex->St->Prop):aF tbE (aB tbR 0) tbF (tbP++[0]++tbI) 2 K (tbT t (.own 1 0 5 m) (some (.row 123 5 m g)) i r X Y n k)=
 (Br (decide ((↑k:Int)<(↑n:Int))) (Br (decide (0<=(↑k:Int))&&decide ((↑k:Int)<(↑r:Int))) (Br (decide (0<=IntKind.i64.wrap ((↑k:Int)+1))&&decide (IntKind.i64.wrap ((↑k:Int)+1)<(↑r:Int))) (Br (decide ((m+1)*40<=1099511627776)&&decide (m+1<9223372036854775808)&&decide (m=m)) (K Ex.normal {tmps:=[(3,SV.own 1 0 5 (m+1)),(4,SV.int .i64 (↑i:Int)),(5,SV.ro r 2 (bD X Y)),(21,SV.int .i64 (↑n:Int)),(22,SV.int .i64 (IntKind.i64.wrap ((↑k:Int)+1))),(8,SV.ro t.nr 1 (cB t)),(9,SV.int .i64 (↑t.nr:Int)),(10,SV.int .i64 (↑i:Int))],store:=[(1,some (SB.row 123 5 (m+1) (bJ m [SV.int .i64 (X (↑k:Int).toNat),SV.int .i64 (Y (↑k:Int).toNat),SV.int .i64 (X (IntKind.i64.wrap ((↑k:Int)+1)).toNat),SV.int .i64 (Y (IntKind.i64.wrap ((↑k:Int)+1)).toNat),SV.int .i64 (↑i:Int)] g)))],nxt:=2,dirty:=[1,2,3,4,5],nt:=42}) (False)) (False)) (False)) (K (Ex.exit 2) {tmps:=[(3,SV.own 1 0 5 m),(4,SV.int .i64 (↑i:Int)),(5,SV.ro r 2 (bD X Y)),(21,SV.int .i64 (↑n:Int)),(22,SV.int .i64 (↑k:Int)),(8,SV.ro t.nr 1 (cB t)),(9,SV.int .i64 (↑t.nr:Int)),(10,SV.int .i64 (↑i:Int))],store:=[(1,some (SB.row 123 5 m g))],nxt:=2,dirty:=[1,2,3,4,5],nt:=42})):=by kernel_rfl
theorem ZK(t:Trk)(i r:Nat)(X Y:Nat->Int)(n k:Nat)(K:Ex->St->Prop):jO tbE (aB tbR 0) tbF tbP 0 tbI K (.exit 2) (tbT t .nils none i r X Y n k)=
 (K Ex.normal {tmps:=[(3,SV.nils),(8,SV.ro t.nr 1 (cB t)),(9,SV.int .i64 (↑t.nr:Int)),(10,SV.int .i64 (IntKind.i64.wrap ((↑i:Int)+1)))],store:=[(1,none)],nxt:=2,dirty:=[1,2,3,4,5],nt:=42}):=by kernel_rfl
theorem YH(t:Trk)(m:Nat)(g:Nat->List SV)(i r:Nat)(X Y:Nat->Int)(n k:Nat)(K:Ex->St->Prop):jO tbE (aB tbR 0) tbF tbP 0 tbI K (.exit 2) (tbT t (.own 1 0 5 m) (some (.row 123 5 m g)) i r X Y n k)=
 (K Ex.normal {tmps:=[(3,SV.own 1 0 5 m),(8,SV.ro t.nr 1 (cB t)),(9,SV.int .i64 (↑t.nr:Int)),(10,SV.int .i64 (IntKind.i64.wrap ((↑i:Int)+1)))],store:=[(1,some (SB.row 123 5 m g))],nxt:=2,dirty:=[1,2,3,4,5],nt:=42}):=by kernel_rfl
theorem VL(t:Trk)(i:Nat)(K:KC):aE tbE (aB tbR 0) tbF tbP 0 K (.exit 0) (tbS t .nils none i)=
 (K SV.nils [] []):=by kernel_rfl
theorem S6(t:Trk)(m:Nat)(g:Nat->List SV)(i:Nat)(K:KC):aE tbE (aB tbR 0) tbF tbP 0 K (.exit 0) (tbS t (.own 1 0 5 m) (some (.row 123 5 m g)) i)=
 (K (SV.own 0 0 5 m) [some (SB.row 123 5 m g)] []):=by kernel_rfl
theorem aAG (t:Trk) (i n:Nat) (L0:List Bar) (hi:i<20) (hr:t.rn i<=100) (hn:n=t.rn i - 1) (hL:L0.length<=2000) (K:Ex->St->Prop)
  (hK: ∀o b,bZ HU 5 1 bsv (L0++mV t i n) o b->K .normal (tbS t o b (i+1:Nat))):
  ∀(f:Nat) (a:Nat×SV×Option SB),(a.1<=n/\bZ HU 5 1 bsv (L0++mV t i a.1) a.2.1 a.2.2)->n - a.1<f->
   iter (aF tbE (aB tbR 0) tbF (tbP++[0]++tbI) 2) (jO tbE (aB tbR 0) tbF tbP 0 tbI K) f (tbT t a.2.1 a.2.2 i (t.rn i) (t.rx i) (t.ry i) n a.1):=
 iA (fun a:Nat×SV×Option SB=>tbT t a.2.1 a.2.2 i (t.rn i) (t.rx i) (t.ry i) n a.1) (fun a=>n - a.1) (fun a=>a.1<=n/\bZ HU 5 1 bsv (L0++mV t i a.1) a.2.1 a.2.2) (fun a=>by
  obtain ⟨k,o,b⟩:=a
  rintro ⟨hk,ht⟩ Z hZ
  simp only at hk ht hZ|-
  rcases ht with ⟨hl,rfl,rfl⟩|⟨g,hl,rfl,rfl,hg⟩
  ·rw [aEf]
   refine Br.of (fun c=>Br.of (fun _=>Br.of (fun _=> ?_) fun c1=> ?_) fun c1=> ?_) fun c=> ?_
   ·have c':=of_decide_eq_true c
    show Z _
    rw [aQ (n:=n) (by omega) (by omega)]
    simp only [Int.toNat_natCast]
    refine hZ (k+1,_,_) ⟨by show k+1<=n;omega, ?_⟩ (by show n - (k+1)<n - k;omega)
    show bZ HU 5 1 bsv (L0++mV t i (k+1)) _ _
    rw [DC,<- List.append_assoc,hl,List.nil_append]
    exact eU (I3 t i k) rfl
   ·have c':=of_decide_eq_true c
    rw [aQ (n:=n) (by omega) (by omega)] at c1
    simp only [Bool.and_eq_false_iff,decide_eq_false_iff_not] at c1;omega
   ·have c':=of_decide_eq_true c
    simp only [Bool.and_eq_false_iff,decide_eq_false_iff_not] at c1;omega
   ·have c':=of_decide_eq_false c
    have hkn:k=n:=by omega
    subst hkn
    show jO tbE (aB tbR 0) tbF tbP 0 tbI K (.exit 2) (tbT t .nils none i (t.rn i) (t.rx i) (t.ry i) k k)
    rw [ZK,aQ (n:=20) (by omega) (by omega)]
    exact hK _ _ (.inl ⟨hl,rfl,rfl⟩)
  ·rw [aEj]
   have hlen:(L0++mV t i k).length<=2100:=by rw [List.length_append,FY];omega
   refine Br.of (fun c=>Br.of (fun _=>Br.of (fun _=>Br.of (fun _=> ?_) fun c1=> ?_) fun c1=> ?_) fun c1=> ?_) fun c=> ?_
   ·have c':=of_decide_eq_true c
    show Z _
    rw [aQ (n:=n) (by omega) (by omega)]
    simp only [Int.toNat_natCast]
    refine hZ (k+1,_,_) ⟨by show k+1<=n;omega, ?_⟩ (by show n - (k+1)<n - k;omega)
    show bZ HU 5 1 bsv (L0++mV t i (k+1)) _ _
    rw [DC,<- List.append_assoc]
    exact fR (I3 t i k) rfl hg
   ·rw [Bool.and_eq_false_iff,Bool.and_eq_false_iff] at c1
    rcases c1 with (c1|c1)|c1
    ·have:=of_decide_eq_false c1;omega
    ·have:=of_decide_eq_false c1;omega
    ·exact absurd rfl (of_decide_eq_false c1)
   ·have c':=of_decide_eq_true c
    rw [aQ (n:=n) (by omega) (by omega)] at c1
    simp only [Bool.and_eq_false_iff,decide_eq_false_iff_not] at c1;omega
   ·have c':=of_decide_eq_true c
    simp only [Bool.and_eq_false_iff,decide_eq_false_iff_not] at c1;omega
   ·have c':=of_decide_eq_false c
    have hkn:k=n:=by omega
    subst hkn
    show jO tbE (aB tbR 0) tbF tbP 0 tbI K (.exit 2) (tbT t _ _ i (t.rn i) (t.rx i) (t.ry i) k k)
    rw [YH,aQ (n:=20) (by omega) (by omega)]
    exact hK _ _ (.inr ⟨g,hl,rfl,rfl,hg⟩))
theorem ZH(t:Trk)(hs:g9 t)(K:KC)(hK:nQ HU 5 bsv (wO t) K):eL tbR (fun _=>0) p9 2 148 [.agg (aU t)] [] K:=by
 rw [ZZ]
 obtain ⟨hs1,hs2⟩:=hs
 refine ⟨t.nr+1,iA (fun a:Nat×SV×Option SB=>tbS t a.2.1 a.2.2 a.1) (fun a=>t.nr - a.1) (fun a=>a.1<=t.nr/\bZ HU 5 1 bsv (nU t a.1) a.2.1 a.2.2) (fun a=> ?_) (t.nr+1) (0,.nils,none) ⟨Nat.zero_le _,kS⟩ (by omega)⟩
 obtain ⟨i,o,b⟩:=a
 rintro ⟨hi,ht⟩ Z hZ
 simp only at hi ht hZ|-
 have hlen:(nU t i).length<=2000:=by
  have:=rW hs2 i hi
  have:i*100<=20*100:=Nat.mul_le_mul_right _ (by omega)
  omega
 have hinner:i<t.nr-> ∃q,iter (aF tbE (aB tbR 0) tbF (tbP++[0]++tbI) 2) (jO tbE (aB tbR 0) tbF tbP 0 tbI (fQ Z (aE tbE (aB tbR 0) tbF tbP 0 K))) q (tbT t o b i (t.rn i) (t.rx i) (t.ry i) (t.rn i - 1:Nat) 0):=fun hlt=>
  ⟨(t.rn i - 1)+1,aAG t i (t.rn i - 1) (nU t i) (by omega) (hs2 i hlt) rfl hlen _ (fun o b h=>hZ (i+1,o,b) ⟨hlt,h⟩ (by show t.nr - (i+1)<t.nr - i;omega)) _ (0,o,b)
   ⟨Nat.zero_le _,by show bZ HU 5 1 bsv (nU t i++mV t i 0) o b;rw [show mV t i 0=[] from rfl,List.append_nil];exact ht⟩ (by show t.rn i - 1 - 0<_;omega)⟩
 have hend:i=t.nr->bZ HU 5 1 bsv (wO t) o b:=fun h=>by subst h;exact ht
 rcases ht with ⟨hl,rfl,rfl⟩|⟨g,hl,rfl,rfl,hg⟩
 ·rw [TF]
  refine Br.of (fun c=>Br.of (fun _=>Br.of (fun _=> ?_) fun c1=> ?_) fun c1=> ?_) fun c=> ?_
  ·have c':=of_decide_eq_true c
   have:=hs2 i (by omega)
   simp only [Int.toNat_natCast]
   rw [vN (by omega)]
   simp only [Int.toNat_natCast,Nat.sub_zero]
   exact hinner (by omega)
  ·have c':=of_decide_eq_true c
   have:=hs2 i (by omega)
   simp only [Int.toNat_natCast] at c1
   rw [vN (by omega)] at c1
   simp only [Bool.true_and,Bool.and_eq_false_iff,decide_eq_false_iff_not] at c1;omega
  ·have c':=of_decide_eq_true c
   simp only [Bool.and_eq_false_iff,decide_eq_false_iff_not] at c1;omega
  ·have c':=of_decide_eq_false c
   show aE tbE (aB tbR 0) tbF tbP 0 K (.exit 0) (tbS t .nils none i)
   rw [VL]
   rcases hend (by omega) with ⟨h,_,_⟩|⟨_,_,h,_⟩
   ·exact hK.1 h
   ·cases h
 ·rw [VH]
  refine Br.of (fun c=>Br.of (fun _=>Br.of (fun _=> ?_) fun c1=> ?_) fun c1=> ?_) fun c=> ?_
  ·have c':=of_decide_eq_true c
   have:=hs2 i (by omega)
   simp only [Int.toNat_natCast]
   rw [vN (by omega)]
   simp only [Int.toNat_natCast,Nat.sub_zero]
   exact hinner (by omega)
  ·have c':=of_decide_eq_true c
   have:=hs2 i (by omega)
   simp only [Int.toNat_natCast] at c1
   rw [vN (by omega)] at c1
   simp only [Bool.true_and,Bool.and_eq_false_iff,decide_eq_false_iff_not] at c1;omega
  ·have c':=of_decide_eq_true c
   simp only [Bool.and_eq_false_iff,decide_eq_false_iff_not] at c1;omega
  ·have c':=of_decide_eq_false c
   show aE tbE (aB tbR 0) tbF tbP 0 K (.exit 0) (tbS t _ _ i)
   rw [S6]
   have hi':i=t.nr:=by omega
   subst hi'
   exact hK.2 g hl hg
theorem aBZ(t:Trk)(hs:g9 t):aD Tryz.prog 148 [.agg (aU t)] [] (.ro (wO t).length 5 (HN (wO t))) [] []:=
 yS (fun _=>rfl) fun K hK=>cA (env:=tab.env p9 (fun _=>0) (fun _=>false)) ⟨tab.htt,p9.ok⟩ tab.mixed (fun n=>bF n tbR) tab.hft 2 _ _ _ K (ZH t hs K hK)
end Go.Proofs.YtghnfjfkjhbgdaaGreatDoor
namespace Go.Proofs.YtghnfjfkjhbgdaaGreatDoor
open Go.Se
set_option maxRecDepth 100000
def sJ(nr:Nat)(rl:Nat->List SV):Prop:=nr<=20/\ ∀i,i<nr->aCK (rl i)<=100
def aAM :List SV->List (Option SB)->KC->Prop
 | [.agg [.int .i64 a0,.int .i64 a1,.int .i64 a2,.int .i64 a3,.int .i64 a4,.int .i64 a5,.ro nh 1 h,.ro ng 1 g,.ro nk 3 kg,.ro nl 2 l,.ro nr 1 rl,.ro nt 5 gt,.int .i64 sx,.int .i64 sy,.int .u32 hd,.int .i64 lp]],[],K=>lY h g kg l rl gt/\sJ nr rl/\K (.ro (wO (mG a0 a1 a2 a3 a4 a5 nh h ng g nk kg nl l nr rl nt gt sx sy hd lp)).length 5 (HN (wO (mG a0 a1 a2 a3 a4 a5 nh h ng g nk kg nl l nr rl nt gt sx sy hd lp)))) [] []
 |_,_,_=>False
theorem aAD(xs:List SV)(σ:List (Option SB)):Sat Tryz.prog 148 xs σ (aAM xs σ):=by
 intro K hK
 unfold aAM at hK
 split at hK
 ·obtain ⟨h1,h2,hK⟩:=hK
  refine ⟨_,_,_,hK, ?_⟩
  rw [nM h1]
  exact aBZ _ h2
 ·exact hK.elim
def zU(v:Trk->Int×Int):List SV->List (Option SB)->KC->Prop
 | [.agg [.int .i64 a0,.int .i64 a1,.int .i64 a2,.int .i64 a3,.int .i64 a4,.int .i64 a5,.ro nh 1 h,.ro ng 1 g,.ro nk 3 kg,.ro nl 2 l,.ro nr 1 rl,.ro nt 5 gt,.int .i64 sx,.int .i64 sy,.int .u32 hd,.int .i64 lp]],[],K=>lY h g kg l rl gt/\sJ nr rl/\qT (v (mG a0 a1 a2 a3 a4 a5 nh h ng g nk kg nl l nr rl nt gt sx sy hd lp)) K
 |_,_,_=>False
theorem aAZ{c:Int×Int}{K:KC}(h:qT c K): ∃v σ' d,K v σ' d:=by
 unfold qT at h
 cases hc:c.1==0<;>rw [hc] at h<;>exact ⟨_,_,_,h⟩
theorem rV{k:FuncId}{v:Trk->Int×Int}(h: ∀t:Trk,g9 t->t.nr<9223372036854775808->t.nt<9223372036854775808->Sat Tryz.prog k [.agg (aU t)] [] (qT (v t)))(xs:List SV)(σ:List (Option SB)):Sat Tryz.prog k xs σ (zU v xs σ):=by
 refine tM (fun K hK=> ?_) fun hx _ K hK=> ?_<;>unfold zU at hK<;>split at hK
 ·exact aAZ hK.2.2
 ·exact hK.elim
 ·obtain ⟨⟨_,_,_,_,_,_,_,_,_,_,hr,ht,_⟩,_⟩:=hx
  rw [nM hK.1]
  refine h _ ?_ hr.1 ht.1 K hK.2.2
  exact hK.2.1
 ·exact hK.elim
theorem O1(xs:List SV)(σ:List (Option SB)):Sat Tryz.prog 98 xs σ (zU (fun t=>(iI t,0)) xs σ):=
 rV (fun t _ _ _ K hK=>cA (env:=tab.env p9 (fun _=>0) (fun _=>false)) ⟨tab.htt,p9.ok⟩ tab.mixed (fun n=>bF n []) tab.hft 4 _ _ _ K (OX t K hK)) xs σ
theorem VW(xs:List SV)(σ:List (Option SB)):Sat Tryz.prog 99 xs σ (zU oQ xs σ):=
 rV (fun t _ h _ K hK=>cA (env:=tab.env p9 (fun _=>0) (fun _=>false)) ⟨tab.htt,p9.ok⟩ tab.mixed (fun n=>bF n zQ) tab.hft 4 _ _ _ K (VG t h K hK)) xs σ
theorem UZ(xs:List SV)(σ:List (Option SB)):Sat Tryz.prog 100 xs σ (zU nY xs σ):=
 rV (fun t _ _ h K hK=>cA (env:=tab.env p9 (fun _=>0) (fun _=>false)) ⟨tab.htt,p9.ok⟩ tab.mixed (fun n=>bF n zP) tab.hft 4 _ _ _ K (U3 t h K hK)) xs σ
noncomputable def p10 :bU Tryz.prog:=(((((p9).add 148 aAM aAD).add 98 (zU (fun t=>(iI t,0))) O1).add 99 (zU oQ) VW).add 100 (zU nY) UZ).add 149 (one RQ) (bC fun xs σ v σ' d h=>by
  unfold RQ at h;split at h<;>cases h;first|exact dK|exact dK _|exact dK _ _|exact dK _ _ _|exact dK _ _ _ _|exact dK _ _ _ _ _|exact dK _ _ _ _ _ _|exact dK _ _ _ _ _ _ _|exact dK _ _ _ _ _ _ _ _|exact dK _ _ _ _ _ _ _ _ _|exact dK _ _ _ _ _ _ _ _ _ _|exact dK _ _ _ _ _ _ _ _ _ _ _)
def tsR :List (Nat×e9):=[(0,⟨[1,2,60,61,62],[0,4],[1,2,3,4,5,6,7],5,[(2,4)]⟩)]
def tsS(t:Trk)(L:List Bar)(i:Int):St:=⟨[(1,.ptr 0 0),(2,.nilI),(60,.ro L.length 5 (HN L)),(61,.int .i64 L.length),(62,.int .i64 i)],[(0,some (.cells 34 (aU t))),(4,none)],5,[1,2,3,4,5,6,7],88⟩
def tsT(t:Trk)(L:List Bar)(c a i:Int):St:=⟨[(1,.ptr 0 0),(2,.iface 91 (.ptr 4 0)),(60,.ro L.length 5 (HN L)),(61,.int .i64 L.length),(62,.int .i64 i)],[(0,some (.cells 34 (aU t))),(4,some (.cells 98 [.int .i64 c,.int .i64 a]))],5,[1,2,3,4,5,6,7],88⟩
noncomputable abbrev tsE :Env:=gC tsR (fun _=>0) p10 3
noncomputable abbrev tsF :Func:=Tryz.f101
abbrev tsP :List Nat:=[1,1,1,1,0,1,0]
theorem X9(t:Trk)(K:KC):eL tsR (fun _=>0) p10 4 101 [.agg (aU t)] [] K=
 (Br (decide (t.sx<t.cx)) (K (SV.iface 91 (SV.ptr 0 0)) [some (SB.cells 98 [SV.int .i64 40,SV.int .i64 0])] []) (Br (decide (t.sy<t.cy)) (K (SV.iface 91 (SV.ptr 0 0)) [some (SB.cells 98 [SV.int .i64 40,SV.int .i64 0])] []) (Br (decide (t.sx>IntKind.i64.wrap (t.cx+IntKind.i64.wrap (t.cols*t.cell)))) (K (SV.iface 91 (SV.ptr 0 0)) [some (SB.cells 98 [SV.int .i64 40,SV.int .i64 0])] []) (Br (decide (t.sy>IntKind.i64.wrap (t.cy+IntKind.i64.wrap (t.rows*t.cell)))) (K (SV.iface 91 (SV.ptr 0 0)) [some (SB.cells 98 [SV.int .i64 40,SV.int .i64 0])] []) ((lY (aM t.h) (aM t.g) (eS t) (bT t.lx t.ly) (cB t) (eN t))/\((sJ t.nr (cB t))/\(∃q_,bS tsE (aB tsR 0) tsF tsP 0 0 K q_ {tmps:=[(1,SV.ptr 0 0),(2,SV.nilI),(60,SV.ro (wO t).length 5 (HN (wO t))),(61,SV.int .i64 (↑(wO t).length:Int)),(62,SV.int .i64 0)],store:=[(0,some (SB.cells 34 (aU t))),(4,none)],nxt:=5,dirty:=[1,2,3,4,5,6,7],nt:=88}))))))):=by kernel_rfl
theorem LJ(t:Trk)(L:List Bar)(i:Nat)(K:Ex->St->Prop):aF tsE (aB tsR 0) tsF tsP 0 K (tsS t L i)=
 (Br (decide ((↑i:Int)<(↑L.length:Int))) (Br (decide (0<=(↑i:Int))&&decide ((↑i:Int)<(↑L.length:Int))) (Br (decide (0<O8 (L.getD (↑i:Int).toNat xH).fst (L.getD (↑i:Int).toNat xH).snd.fst (L.getD (↑i:Int).toNat xH).snd.snd.fst (L.getD (↑i:Int).toNat xH).snd.snd.snd.fst t.sx t.sy)) (Br (decide (O8 (L.getD (↑i:Int).toNat xH).fst (L.getD (↑i:Int).toNat xH).snd.fst (L.getD (↑i:Int).toNat xH).snd.snd.fst (L.getD (↑i:Int).toNat xH).snd.snd.snd.fst t.sx t.sy<=17179869184)) (K Ex.ret {tmps:=[(1,SV.ptr 0 0),(2,SV.iface 91 (SV.ptr 4 0)),(60,SV.ro L.length 5 (HN L)),(61,SV.int .i64 (↑L.length:Int)),(62,SV.int .i64 (↑i:Int))],store:=[(0,some (SB.cells 34 (aU t))),(4,some (SB.cells 98 [SV.int .i64 43,SV.int .i64 0]))],nxt:=5,dirty:=[1,2,3,4,5,6,7],nt:=88}) (K Ex.normal {tmps:=[(1,SV.ptr 0 0),(2,SV.nilI),(60,SV.ro L.length 5 (HN L)),(61,SV.int .i64 (↑L.length:Int)),(62,SV.int .i64 (IntKind.i64.wrap ((↑i:Int)+1)))],store:=[(0,some (SB.cells 34 (aU t))),(4,none)],nxt:=5,dirty:=[1,2,3,4,5,6,7],nt:=88})) (K Ex.normal {tmps:=[(1,SV.ptr 0 0),(2,SV.nilI),(60,SV.ro L.length 5 (HN L)),(61,SV.int .i64 (↑L.length:Int)),(62,SV.int .i64 (IntKind.i64.wrap ((↑i:Int)+1)))],store:=[(0,some (SB.cells 34 (aU t))),(4,none)],nxt:=5,dirty:=[1,2,3,4,5,6,7],nt:=88})) (False)) (K (Ex.exit 0) {tmps:=[(1,SV.ptr 0 0),(2,SV.nilI),(60,SV.ro L.length 5 (HN L)),(61,SV.int .i64 (↑L.length:Int)),(62,SV.int .i64 (↑i:Int))],store:=[(0,some (SB.cells 34 (aU t))),(4,none)],nxt:=5,dirty:=[1,2,3,4,5,6,7],nt:=88})):=by kernel_rfl
theorem aDM(t:Trk)(L:List Bar)(c a i:Int)(K:KC):aE tsE (aB tsR 0) tsF tsP 0 K .ret (tsT t L c a i)=
 (K (SV.iface 91 (SV.ptr 0 0)) [some (SB.cells 98 [SV.int .i64 c,SV.int .i64 a])] []):=by kernel_rfl
theorem WN(t:Trk)(L:List Bar)(i:Int)(K:KC):aE tsE (aB tsR 0) tsF tsP 0 K (.exit 0) (tsS t L i)=
 (Br (decide (1<=t.laps)) (Br (!!decide (t.laps<=100)) (K SV.nilI [] []) (K (SV.iface 91 (SV.ptr 0 0)) [some (SB.cells 98 [SV.int .i64 40,SV.int .i64 0])] [])) (K (SV.iface 91 (SV.ptr 0 0)) [some (SB.cells 98 [SV.int .i64 40,SV.int .i64 0])] [])):=by kernel_rfl
theorem VO(t:Trk)(hs:g9 t)(K:KC)(hK:qT (oP t) K):eL tsR (fun _=>0) p10 4 101 [.agg (aU t)] [] K:=by
 rw [X9]
 unfold oP aBF at hK
 refine Br.of (fun c1=> ?_) fun c1=>Br.of (fun c2=> ?_) fun c2=>Br.of (fun c3=> ?_) fun c3=>Br.of (fun c4=> ?_) fun c4=>⟨gJ t,hs, ?_⟩
 ·rw [c1] at hK;exact hK
 ·rw [c1,c2] at hK;exact hK
 ·rw [c1,c2,c3] at hK;exact hK
 ·rw [c1,c2,c3,c4] at hK;exact hK
 rw [c1,c2,c3,c4] at hK
 simp only [Bool.or_false,cond_false] at hK
 have hlen:(wO t).length<=2000:=by
  have:=rW hs.2 t.nr (Nat.le_refl _)
  have h2:t.nr*100<=20*100:=Nat.mul_le_mul_right _ hs.1
  unfold wO
  omega
 generalize hLL:wO t=L at hlen|-
 refine ⟨L.length+1,jC (fun i:Nat=>tsS t L i) L.length (fun i=> ∀j,j<i->vV t (L.getD j xH)=false) (fun i hi hI X hX=> ?_) (fun hI X=> ?_) (fun j hj=>absurd hj (Nat.not_lt_zero j))⟩
 ·have hret:vV t (L.getD i xH)=true->fQ X (aE tsE (aB tsR 0) tsF tsP 0 K) .ret (tsT t L 43 0 i):=fun h=>by
   show aE tsE (aB tsR 0) tsF tsP 0 K .ret (tsT t L 43 0 i)
   rw [aDM]
   rw [show qW t=true by unfold qW;rw [hLL];exact wB.2 ⟨i,hi,h⟩] at hK
   exact hK
  have hnext:vV t (L.getD i xH)=false->fQ X (aE tsE (aB tsR 0) tsF tsP 0 K) .normal (tsS t L (i+1:Nat)):=fun h=>hX fun j hj=>by
   rcases Nat.lt_or_eq_of_le (Nat.le_of_lt_succ hj) with hj|rfl
   ·exact hI j hj
   ·exact h
  rw [LJ,aQ (n:=L.length) hi (by omega)]
  simp only [Int.toNat_natCast]
  unfold vV at hret hnext
  refine Br.of (fun _=>Br.of (fun _=>Br.of (fun c1=>Br.of (fun c2=>hret ?_) fun c2=>hnext ?_) fun c1=>hnext ?_) fun c=> ?_) fun c=> ?_
  ·rw [c1,c2];rfl
  ·rw [c1,c2];rfl
  ·rw [c1];rfl
  ·simp only [Bool.and_eq_false_iff,decide_eq_false_iff_not] at c;omega
  ·have:=of_decide_eq_false c;omega
 ·rw [LJ]
  refine Br.of (fun c=>absurd (of_decide_eq_true c) (by omega)) fun _=> ?_
  show aE tsE (aB tsR 0) tsF tsP 0 K (.exit 0) (tsS t L L.length)
  rw [WN]
  rw [show qW t=false by unfold qW;rw [hLL];exact qM.2 hI] at hK
  unfold MJ at hK
  simp only [cond_false] at hK
  refine Br.of (fun d1=>Br.of (fun d2=> ?_) fun d2=> ?_) fun d1=> ?_
  ·rw [d1,show decide (t.laps<=100)=true by rw [Bool.not_not] at d2;exact d2] at hK;exact hK
  ·rw [d1,show decide (t.laps<=100)=false by rw [Bool.not_not] at d2;exact d2] at hK;exact hK
  ·rw [d1] at hK;exact hK
theorem V4(xs:List SV)(σ:List (Option SB)):Sat Tryz.prog 101 xs σ (zU oP xs σ):=
 rV (fun t hs _ _ K hK=>cA (env:=tab.env p10 (fun _=>0) (fun _=>false)) ⟨tab.htt,p10.ok⟩ tab.mixed (fun n=>bF n tsR) tab.hft 4 _ _ _ K (VO t hs K hK)) xs σ
noncomputable def p11 :bU Tryz.prog:=(p10).add 101 (zU oP) V4
theorem W2(t:Trk)(K:KC):run p11 2 56 [.agg (aU t)] [] K=
 ((lY (aM t.h) (aM t.g) (eS t) (bT t.lx t.ly) (cB t) (eN t))/\((sJ t.nr (cB t))/\(Br (((fun (t:Trk)=>(iI t,0)) t).fst==0) ((lY (aM t.h) (aM t.g) (eS t) (bT t.lx t.ly) (cB t) (eN t))/\((sJ t.nr (cB t))/\(Br ((oQ t).fst==0) ((lY (aM t.h) (aM t.g) (eS t) (bT t.lx t.ly) (cB t) (eN t))/\((sJ t.nr (cB t))/\(Br ((nY t).fst==0) ((lY (aM t.h) (aM t.g) (eS t) (bT t.lx t.ly) (cB t) (eN t))/\((sJ t.nr (cB t))/\(Br ((oP t).fst==0) (K SV.nilI [] []) (K (SV.iface 91 (SV.ptr 0 0)) [some (SB.cells 98 [SV.int .i64 (oP t).fst,SV.int .i64 (oP t).snd])] [])))) (K (SV.iface 91 (SV.ptr 0 0)) [some (SB.cells 98 [SV.int .i64 (nY t).fst,SV.int .i64 (nY t).snd])] [])))) (K (SV.iface 91 (SV.ptr 0 0)) [some (SB.cells 98 [SV.int .i64 (oQ t).fst,SV.int .i64 (oQ t).snd])] [])))) (K (SV.iface 91 (SV.ptr 0 0)) [some (SB.cells 98 [SV.int .i64 ((fun (t:Trk)=>(iI t,0)) t).fst,SV.int .i64 ((fun (t:Trk)=>(iI t,0)) t).snd])] [])))):=by kernel_rfl
theorem jE{x:Int}{b:Bool}(h:(x==0)=b):(x !=0)= !b:=by rw [<- h];rfl
theorem SD(t:Trk)(hs:g9 t)(K:KC)(hK:qT (cG t) K):run p11 2 56 [.agg (aU t)] [] K:=by
 rw [W2]
 unfold cG orV at hK
 refine ⟨gJ t,hs,Br.of (fun c1=>⟨gJ t,hs,Br.of (fun c2=>⟨gJ t,hs,Br.of (fun c3=>⟨gJ t,hs,Br.of (fun c4=> ?_) fun c4=> ?_⟩) fun c3=> ?_⟩) fun c2=> ?_⟩) fun c1=> ?_⟩
 ·have c1':(iI t==0)=true:=c1
  simp only [jE c1',jE c2,jE c3,Bool.not_true,cond_false] at hK
  unfold qT at hK;rw [c4] at hK;exact hK
 ·have c1':(iI t==0)=true:=c1
  simp only [jE c1',jE c2,jE c3,Bool.not_true,cond_false] at hK
  unfold qT at hK;rw [c4] at hK;exact hK
 ·have c1':(iI t==0)=true:=c1
  simp only [jE c1',jE c2,jE c3,Bool.not_true,Bool.not_false,cond_false,cond_true] at hK
  unfold qT at hK;rw [c3] at hK;exact hK
 ·have c1':(iI t==0)=true:=c1
  simp only [jE c1',jE c2,Bool.not_true,Bool.not_false,cond_false,cond_true] at hK
  unfold qT at hK;rw [c2] at hK;exact hK
 ·have c1':(iI t==0)=false:=c1
  simp only [jE c1',Bool.not_false,cond_true] at hK
  unfold qT at hK
  simp only [c1'] at hK
  exact hK
theorem SK(xs:List SV)(σ:List (Option SB)):Sat Tryz.prog 56 xs σ (zU cG xs σ):=
 rV (fun t hs _ _ K hK=>cA (env:=tab.env p11 (fun _=>0) (fun _=>false)) ⟨tab.htt,p11.ok⟩ tab.mixed (fun n=>bF n []) tab.hft 2 _ _ _ K (SD t hs K hK)) xs σ
noncomputable def p12 :bU Tryz.prog:=((p11).add 56 (zU cG) SK).add 55 cAs aAW
theorem YT(t:Trk)(K:KC):run p12 2 14 [.agg (aU t)] [] K=
 ((lY (aM t.h) (aM t.g) (eS t) (bT t.lx t.ly) (cB t) (eN t))/\((sJ t.nr (cB t))/\(Br ((cG t).fst==0) (K (SV.tup [SV.int .i64 0,SV.int .i64 0]) [] []) (K (SV.tup [SV.int .i64 (cG t).fst,SV.int .i64 (cG t).snd]) [] [])))):=by kernel_rfl
theorem WY{a b:Int×Int}(ha:a.1=0->a.2=0)(hb:b.1=0->b.2=0):(orV a b).1=0->(orV a b).2=0:=by
 unfold orV
 cases h:a.1 !=0
 ·exact hb
 ·exact ha
theorem O3{c:Nat->Int}: ∀f i,(t6 c f i).1=0->(t6 c f i).2=0
 |0,_=>fun _=>rfl
 |f+1,i=>by
  unfold t6
  cases h:c i !=0
  ·exact O3 f (i+1)
  ·intro h1
   have h1':c i=0:=h1
   rw [h1'] at h;cases h
theorem XP(t:Trk):(cG t).1=0->(cG t).2=0:=by
 unfold cG
 refine WY (fun _=>rfl) (WY ?_ (WY ?_ ?_))
 ·unfold oQ;cases decide ((t.nr:Int)>16)
  ·exact O3 _ _
  ·exact fun _=>rfl
 ·unfold nY;cases !(decide ((1:Int)<=t.nt)&&decide ((t.nt:Int)<=16))
  ·exact O3 _ _
  ·exact fun _=>rfl
 ·unfold oP;cases aBF t<;>cases qW t<;>cases !MJ t<;>exact fun _=>rfl
theorem UU(t:Trk)(hs:g9 t)(K:KC)(hK:K (.tup [.int .i64 (cG t).1,.int .i64 (cG t).2]) [] []):run p12 2 14 [.agg (aU t)] [] K:=by
 rw [YT]
 refine ⟨gJ t,hs,Br.of (fun c=> ?_) fun c=> ?_⟩
 ·have c':=eq_of_beq c
  rw [XP t c',c'] at hK
  exact hK
 ·exact hK
end Go.Proofs.YtghnfjfkjhbgdaaGreatDoor
namespace Go.Se
theorem aFc{α:Type}{f:Nat->α}{n i:Nat}(h:i<n):f i∈lst f n:=List.mem_map.2 ⟨i,List.mem_range.2 h,rfl⟩
structure aAA (t:Trk):Prop where
 gd:aA4 t
 nl:t.nl<=64
 nr:t.nr<=16
 rn: ∀i,i<t.nr->2<=t.rn i/\t.rn i<=64
 nt:t.nt<=16
 head:0<=t.head/\t.head<=4294967295
theorem R5{t:Trk}(h:(cG t).1=0)(hi:yD t):aAA t:=by
 have hk:=IK h hi
 have hc:=hk.cols
 have hr:=hk.rows
 have h1:=hk.nh
 have h2:=hk.ng
 have w: ∀x:Int,-10000<=x->x<=10000->IntKind.i64.wrap x=x:=fun x _ _=>by rw [IntKind.wrap_i64];omega
 simp only [PB,fB] at hc hr h1 h2
 have m1:=A9 (a:=t.cols+1) (b:=t.rows+1) (N:=65) (M:=65) (by omega) (by omega) (by omega) (by omega)
 have m2:=A9 (a:=t.cols) (b:=t.rows) (N:=64) (M:=64) (by omega) (by omega) (by omega) (by omega)
 unfold nHs at h1
 unfold nGs at h2
 rw [w (t.cols+1) (by omega) (by omega),w (t.rows+1) (by omega) (by omega),w ((t.cols+1)*(t.rows+1)) (by omega) (by omega)] at h1
 rw [w (t.cols*t.rows) (by omega) (by omega)] at h2
 exact {
  gd:=⟨hc,hr,by rw [<- h1,<- Int.toNat_mul (by omega) (by omega),Int.mul_comm],by rw [<- h2,<- Int.toNat_mul (by omega) (by omega),Int.mul_comm],by
   have:=hk.kinds.2.1
   simp only [PB,fB] at this;omega⟩
  nl:=by have:=hk.line.2.1;simp only [PB,fB] at this;omega
  nr:=by have:=hk.rails.2.1;simp only [PB,fB] at this;omega
  rn:=fun i hi=>by
   have:=hk.rails.2.2 _ (aFc (f:=fun i=>lst (fun k=>(t.rx i k,t.ry i k)) (t.rn i)) hi)
   rw [fB] at this;omega
  nt:=by have:=hk.gates.2.1;simp only [PB,fB] at this;omega
  head:=hi.head}
theorem yI{t:Trk}(h:aA4 t):(tK t).length<=700000:=by
 obtain ⟨⟨a1,a2⟩,⟨a3,a4⟩,a5,a6,a7⟩:=h
 have h1:=iH (w:=rO) (aL (uZ t.rate) dN)
 have h2:=iH (w:=s5) (aL (fE t.cell) dN)
 have h3:=iH (w:=nX) (aL (uZ t.cols) (aL (uZ t.rows) dN))
 have h4:=iH (w:=kC) (aL (fE t.cx) (aL (fE t.cy) dN))
 have h5:=iM (f:=xL t.h (t.cols+1).toNat) (B:=5000) (fun i=>A0 (f:=t.h) (r:=i) (by omega)) (t.rows+1).toNat 0
 have h6:=iM (f:=yA t.g t.cols.toNat) (B:=5000) (fun i=>BF (f:=t.g) (r:=i) (by omega)) t.rows.toNat 0
 have h7:=iM (f:=B0 t) (B:=200) (fun i=>by
  have:=iH (w:=iO) (aL (fE (t.kg i)) (aL (fE (t.kd i)) (aL (XB (t.ko i)) dN)))
  rw [show iO.length=4 from rfl] at this
  simp only [List.length_cons,List.length_nil] at this
  unfold B0;omega) t.nk 0
 rw [show rO.length=4 from rfl] at h1
 rw [show s5.length=4 from rfl] at h2
 rw [show nX.length=4 from rfl] at h3
 rw [show kC.length=6 from rfl] at h4
 simp only [List.length_cons,List.length_nil] at h1 h2 h3 h4
 have e:tK t=lnW rO [aJ t.rate]++lnW s5 [aC t.cell]++lnW nX [aJ t.cols,aJ t.rows]++lnW kC [aC t.cx,aC t.cy]++
  bL (xL t.h (t.cols+1).toNat) 0 (t.rows+1).toNat++bL (yA t.g t.cols.toNat) 0 t.rows.toNat++bL (B0 t) 0 t.nk:=rfl
 rw [e]
 simp only [List.length_append];omega
def IQ(t:Trk)(i:Nat):List Int:=lnW eZ [aC (t.lx i),aC (t.ly i)]
def G4(t:Trk)(i:Nat):List Int:=lnW dU (dD (t.rx i) (t.ry i) 0 (t.rn i))
def BB(t:Trk)(i:Nat):List Int:=lnW gD [aC (t.ax i),aC (t.ay i),aC (t.bx i),aC (t.sb i),hC (t.sp i)]
theorem J5(t:Trk):aDk t=bL (IQ t) 0 t.nl++bL (G4 t) 0 t.nr++bL (BB t) 0 t.nt++lnW g8 [aC t.sx,aC t.sy,aJ t.head]++lnW oZ [aJ t.laps]:=rfl
theorem vE {env:Env} {W:Nat->St->Option St} {fn:Func} {path:List Nat} {blk:Nat} {KK:Ex->St->Prop} (S:List Int->Int->St) (w:List Int) (p:Nat->List (List Int)) (n:Nat) (l0:List Int)
  (hn:n<=1000) (hw:bB w/\w.length<=100) (hp: ∀i,i<n->dZ (p i)/\(p i).length<=200) (hl:l0.length<=100000000)
  (hr: ∀(i:Nat) (l:List Int),i<n->l.length<=200000000-> ∀X:St->Prop,(∀l',kT l' l w (p i)->X (S l' ((i+1:Nat):Int)))->aF env W fn path blk (fQ X KK) (S l (i:Int)))
  (he: ∀l,kJ l l0 (bL (fun i=>lnW w (p i)) 0 n)->l.length<=l0.length+n*10000-> ∀X:St->Prop,aF env W fn path blk (fQ X KK) (S l (n:Int))):
  iter (aF env W fn path blk) KK (n+1) (S l0 ((0:Nat):Int)):=by
 refine iA (fun a:Nat×List Int=>S a.2 (a.1:Int)) (fun a=>n - a.1) (fun a=>(a.1<=n/\a.2=l0++bL (fun i=>lnW w (p i)) 0 a.1)/\a.2.length<=l0.length+a.1*10000) ?_ (n+1) (0,l0) ⟨⟨Nat.zero_le _,by show l0=l0++[];rw [List.append_nil]⟩,by show l0.length<=l0.length+0*10000;rw [Nat.zero_mul];exact Nat.le_refl _⟩ (by show n - 0<n+1;omega)
 rintro ⟨i,l⟩ ⟨⟨h1,h2⟩,h3⟩ X hX
 simp only at h1 h2 h3 hX|-
 by_cases hi:i<n
 ·refine hr i l hi (by omega) X fun l' hg=> ?_
  obtain ⟨o1,o2⟩:=hp i hi
  have hl':=lQ hg o1
  have hwl:=hw.2
  refine hX (i+1,l') ⟨⟨hi, ?_⟩,by show l'.length<=l0.length+(i+1)*10000;omega⟩ (by show n - (i+1)<n - i;omega)
  unfold kT at hg
  rw [hg,h2,List.append_assoc,jQ,Nat.zero_add]
 ·obtain rfl:i=n:=by omega
  exact he l h2 h3 X
end Go.Se
namespace Go.Proofs.YtghnfjfkjhbgdaaGreatDoor
open Go.Se
set_option maxRecDepth 100000
def cRt :List SV->List (Option SB)->KC->Prop
 | [.agg cs],[],K=> ∃t:Trk,(cs=aU t/\g9 t)/\K (.tup [.int .i64 (cG t).1,.int .i64 (cG t).2]) [] []
 |_,_,_=>False
theorem P5(xs:List SV)(σ:List (Option SB)):Sat Tryz.prog 14 xs σ (cRt xs σ):=by
 intro K hK
 unfold cRt at hK
 split at hK
 case h_2=>exact hK.elim
 obtain ⟨t,⟨rfl,h⟩,hK⟩:=hK
 exact cA (env:=tab.env p12 (fun _=>0) (fun _=>false)) ⟨tab.htt,p12.ok⟩ tab.mixed (fun n=>bF n []) tab.hft 2 _ _ _ K (UU t h K hK)
noncomputable def n7 :bU Tryz.prog:=(n6).add 14 cRt P5
abbrev pnD :List Nat:=[0,1,2,3,4,5,6,7,8,9,10,11,12,13,14,15,16]
def pnR :List (Nat×e9×List ((Nat×List Nat)×Nat)):=[(0,⟨[1,6,7,28,29,30],[0,1,2,3],pnD,4,[]⟩,[((6,[1]),3)]),(2,⟨[1,6,7,41,42,43],[0,1,2,3],pnD,4,[]⟩,[((6,[1]),3)]),(4,⟨[1,6,7,53,54,55],[0,1,2,3],pnD,4,[]⟩,[((6,[1]),3)])]
noncomputable abbrev pnE :Env:=aCw pnR (fun _=>0) n7 3
noncomputable abbrev pnF :Func:=Tryz.f8
abbrev V7 :List Nat:=[1,1,1,1,1,0,1,0]
abbrev S7 :List Nat:=[1,1,1,1,1,1,0,1,0]
abbrev VQ :List Nat:=[1,1,1,1,1,1,1,0,1,0]
def pnS(a b c:Nat)(v:SV)(n:Nat)(t:Trk)(l:List Int)(i:Int):St:=⟨[(1,.ptr 0 0),(6,.ptr 1 0),(7,.ptr 2 0),(a,v),(b,.int .i64 n),(c,.int .i64 i)],[(0,some (.cells 34 (aU t))),(1,some (.cells sbT [.ptr 1 0,.own 3 0 1 l.length])),(2,some (.cells pgT [.ptr 1 0])),(3,some (.row 5 1 l.length (tG l)))],4,pnD,92⟩
def J4(t:Trk)(l:List Int)(i:Int):St:=pnS 28 29 30 (.ro t.nl 2 (bT t.lx t.ly)) t.nl t l i
def IW(t:Trk)(l:List Int)(i:Int):St:=pnS 41 42 43 (.ro t.nr 1 (cB t)) t.nr t l i
def HX(t:Trk)(l:List Int)(i:Int):St:=pnS 53 54 55 (.ro t.nt 5 (eN t)) t.nt t l i
theorem aBb(t:Trk)(K:KC):BT pnR (fun _=>0) n7 4 8 [.agg (aU t)] [] K=
 (∃(e400:Trk),((aU t)=aU e400/\g9 e400)/\(Br ((cG e400).fst !=0) (K (SV.tup [SV.str (⟨#[]⟩:ByteArray),SV.int .i64 (cG e400).fst]) [] []) (∃(e397:Trk),((aU t)=aU e397/\aA4 e397)/\(∀(l395:List Int),∀(_:kJ l395 [] (tK e397)),∃q_,bS pnE (cC pnR 0) pnF V7 0 0 K q_ (J4 t l395 0))))):=by kernel_rfl
theorem aDn(t:Trk)(l:List Int)(i:Nat)(K:Ex->St->Prop):aF pnE (cC pnR 0) pnF V7 0 K (J4 t l i)=
 (Br (decide ((↑i:Int)<(↑t.nl:Int))) (Br (decide (0<=(↑i:Int))&&decide ((↑i:Int)<(↑t.nl:Int))) (∃(e398:List Int),∃(e397:List (List Int)),∃(e396:List Int),(((⟨#[112,111,105,110,116]⟩:ByteArray)=bytesOf e398/\2=e397.length/\2=2/\d7 (aH [aC (t.lx (↑i:Int).toNat),aC (t.ly (↑i:Int).toNat)]) e397)/\fH e398 e397/\l.length=e396.length/\l.length=e396.length/\tG l=tG e396/\e396.length<=1073741824)/\(∀(l394:List Int),∀(_:kT l394 e396 e398 e397),K Ex.normal (J4 t l394 (IntKind.i64.wrap ((↑i:Int)+1))))) (False)) (K (Ex.exit 0) (J4 t l (↑i:Int)))):=by kernel_rfl
theorem aDh(t:Trk)(l:List Int)(i:Nat)(K:Ex->St->Prop):aF pnE (cC pnR 0) pnF S7 2 K (IW t l i)=
 (Br (decide ((↑i:Int)<(↑t.nr:Int))) (Br (decide (0<=(↑i:Int))&&decide ((↑i:Int)<(↑t.nr:Int))) (∃(e398:Nat->Int),∃(e397:Nat->Int),(bT (t.rx (↑i:Int).toNat) (t.ry (↑i:Int).toNat)=bT e398 e397/\t.rn (↑i:Int).toNat<=1048576)/\(∃(e395:List Int),∃(e394:List (List Int)),∃(e393:List Int),(((⟨#[114,97,105,108]⟩:ByteArray)=bytesOf e395/\2*t.rn (↑i:Int).toNat=e394.length/\d7 (aH (dD e398 e397 0 (t.rn (↑i:Int).toNat))) e394)/\fH e395 e394/\l.length=e393.length/\l.length=e393.length/\tG l=tG e393/\e393.length<=1073741824)/\(∀(l391:List Int),∀(_:kT l391 e393 e395 e394),K Ex.normal (IW t l391 (IntKind.i64.wrap ((↑i:Int)+1)))))) (False)) (K (Ex.exit 2) (IW t l (↑i:Int)))):=by kernel_rfl
theorem aDC(t:Trk)(l:List Int)(i:Nat)(K:Ex->St->Prop):aF pnE (cC pnR 0) pnF VQ 4 K (HX t l i)=
 (Br (decide ((↑i:Int)<(↑t.nt:Int))) (Br (decide (0<=(↑i:Int))&&decide ((↑i:Int)<(↑t.nt:Int))) (Br (t.sp (↑i:Int).toNat) (∃(e397:List Int),∃(e396:List (List Int)),∃(e395:List Int),(((⟨#[103,97,116,101]⟩:ByteArray)=bytesOf e397/\5=e396.length/\5=5/\d7 (bJ 4 [SV.str (⟨#[115,112,108,105,116]⟩:ByteArray)] (aH [aC (t.ax (↑i:Int).toNat),aC (t.ay (↑i:Int).toNat),aC (t.bx (↑i:Int).toNat),aC (t.sb (↑i:Int).toNat)])) e396)/\fH e397 e396/\l.length=e395.length/\l.length=e395.length/\tG l=tG e395/\e395.length<=1073741824)/\(∀(l393:List Int),∀(_:kT l393 e395 e397 e396),K Ex.normal (HX t l393 (IntKind.i64.wrap ((↑i:Int)+1))))) (∃(e397:List Int),∃(e396:List (List Int)),∃(e395:List Int),(((⟨#[103,97,116,101]⟩:ByteArray)=bytesOf e397/\5=e396.length/\5=5/\d7 (bJ 4 [SV.str (⟨#[112,108,97,105,110]⟩:ByteArray)] (aH [aC (t.ax (↑i:Int).toNat),aC (t.ay (↑i:Int).toNat),aC (t.bx (↑i:Int).toNat),aC (t.sb (↑i:Int).toNat)])) e396)/\fH e397 e396/\l.length=e395.length/\l.length=e395.length/\tG l=tG e395/\e395.length<=1073741824)/\(∀(l393:List Int),∀(_:kT l393 e395 e397 e396),K Ex.normal (HX t l393 (IntKind.i64.wrap ((↑i:Int)+1)))))) (False)) (K (Ex.exit 4) (HX t l (↑i:Int)))):=by kernel_rfl
theorem aF4(t:Trk)(l:List Int)(i:Nat)(K:KC):aE pnE (cC pnR 0) pnF V7 0 K (.exit 0) (J4 t l i)=
 (∃q_,bS pnE (cC pnR 0) pnF S7 2 0 K q_ (IW t l 0)):=by kernel_rfl
theorem aGz(t:Trk)(l:List Int)(i:Nat)(K:KC):aE pnE (cC pnR 0) pnF S7 0 K (.exit 2) (IW t l i)=
 (∃q_,bS pnE (cC pnR 0) pnF VQ 4 0 K q_ (HX t l 0)):=by kernel_rfl
theorem aGn(t:Trk)(l:List Int)(i:Nat)(K:KC):aE pnE (cC pnR 0) pnF VQ 0 K (.exit 4) (HX t l i)=
 (∃(e400:List Int),∃(e399:List (List Int)),∃(e398:List Int),(((⟨#[115,116,97,114,116]⟩:ByteArray)=bytesOf e400/\3=e399.length/\3=3/\d7 (bJ 2 [SV.str (bytesOf (aJ (IntKind.i64.wrap t.head)))] (aH [aC t.sx,aC t.sy])) e399)/\fH e400 e399/\l.length=e398.length/\l.length=e398.length/\tG l=tG e398/\e398.length<=1073741824)/\(∀(l396:List Int),∀(_:kT l396 e398 e400 e399),∃(e394:List Int),∃(e393:List (List Int)),∃(e392:List Int),(((⟨#[108,97,112,115]⟩:ByteArray)=bytesOf e394/\1=e393.length/\1=1/\d7 (aH [aJ t.laps]) e393)/\fH e394 e393/\l396.length=e392.length/\l396.length=e392.length/\tG l396=tG e392/\e392.length<=1073741824)/\(∀(l390:List Int),∀(_:kT l390 e392 e394 e393),Br (decide (0<l390.length)) ((∀(i:Nat),i<(↑l390.length:Int).toNat->sM (tG l390 i)=true)/\(Br (decide (0<(↑l390.length:Int))&&decide ((↑l390.length:Int)<=(↑l390.length:Int))&&decide ((↑l390.length:Int)<9223372036854775808)) (K (SV.tup [SV.str (bytesOf (mC (↑l390.length:Int).toNat (tG l390))),SV.int .i64 0]) [] []) (False))) (False)))):=by kernel_rfl
theorem aGI(t:Trk)(h:aAA t)(b0:List Int)(hb:b0.length<=90000000)(i:Nat)(K:KC)(hK: ∀l:List Int,kJ l b0 (lnW g8 [aC t.sx,aC t.sy,aJ t.head]++lnW oZ [aJ t.laps])->K (.tup [.str (bytesOf l),.int .i64 0]) [] []):
  aE pnE (cC pnR 0) pnF VQ 0 K (.exit 4) (HX t b0 i):=by
 have k1:dZ [aC t.sx,aC t.sy,aJ t.head]:=aL (fE _) (aL (fE _) (aL (uZ _) dN))
 have k2:dZ [aJ t.laps]:=aL (uZ _) dN
 have hw:IntKind.i64.wrap t.head=t.head:=by have:=h.head;rw [g7];omega
 rw [aGn,hw]
 refine ⟨g8,_,b0,⟨⟨rfl,rfl,rfl,aFy⟩,d8 (cD rfl) k1 (Nat.succ_pos _) (by simp),rfl,rfl,rfl,by omega⟩,fun l1 g1=> ?_⟩
 have e1:=lQ g1 k1
 rw [show g8.length=5 from rfl] at e1
 simp only [List.length_cons,List.length_nil] at e1
 refine ⟨oZ,_,l1,⟨⟨rfl,rfl,rfl,fO _⟩,d8 (cD rfl) k2 (Nat.succ_pos _) (by simp),rfl,rfl,rfl,by omega⟩,fun l2 g2=> ?_⟩
 have e2:=lQ g2 k2
 rw [show oZ.length=4 from rfl] at e2
 simp only [List.length_cons,List.length_nil] at e2
 unfold kT at g1 g2
 have e3:0<l2.length:=by rw [g2,List.length_append];exact Nat.lt_of_lt_of_le (d8 (cD rfl) k2 (Nat.succ_pos _) (by simp)).pos (Nat.le_add_left _ _)
 refine Br.of (fun _=>⟨fun _ _=>rfl,Br.of (fun _=> ?_) fun c=>absurd c (by simp;omega)⟩) fun c=>absurd e3 (of_decide_eq_false c)
 rw [Int.toNat_natCast,aBE]
 refine hK l2 ?_
 unfold kJ
 rw [g2,g1,List.append_assoc]
theorem aGC(t:Trk)(h:aAA t)(b0:List Int)(hb:b0.length<=80000000)(i:Nat)(K:KC)(hK: ∀l:List Int,kJ l b0 (bL (BB t) 0 t.nt++(lnW g8 [aC t.sx,aC t.sy,aJ t.head]++lnW oZ [aJ t.laps]))->K (.tup [.str (bytesOf l),.int .i64 0]) [] []):
  aE pnE (cC pnR 0) pnF S7 0 K (.exit 2) (IW t b0 i):=by
 have hn:=h.nt
 rw [aGz]
 refine ⟨t.nt+1, ?_⟩
 show iter (aF pnE (cC pnR 0) pnF VQ 4) (aE pnE (cC pnR 0) pnF VQ 0 K) (t.nt+1) (HX t b0 ((0:Nat):Int))
 refine vE (fun l i=>HX t l i) gD (fun i=>[aC (t.ax i),aC (t.ay i),aC (t.bx i),aC (t.sb i),hC (t.sp i)]) t.nt b0 (by omega) (cD rfl) (fun i _=>⟨aL (fE _) (aL (fE _) (aL (fE _) (aL (fE _) (aL (QN _) dN)))),by simp⟩) (by omega) (fun i l hi hl X hX=> ?_) fun l hl hle X=> ?_
 ·have hok:dZ [aC (t.ax i),aC (t.ay i),aC (t.bx i),aC (t.sb i),hC (t.sp i)]:=aL (fE _) (aL (fE _) (aL (fE _) (aL (fE _) (aL (QN _) dN))))
  rw [aDC,aQ hi (by omega),Int.toNat_natCast]
  refine Br.of (fun _=>Br.of (fun _=>Br.of (fun c=> ?_) fun c=> ?_) fun c=>oO hi c) fun c=>nZ hi c
  ·rw [c] at hok hX
   exact ⟨gD,[aC (t.ax i),aC (t.ay i),aC (t.bx i),aC (t.sb i),hC true],l,⟨⟨rfl,rfl,rfl,aFV (e:=hC true)⟩,d8 (cD rfl) hok (Nat.succ_pos _) (by simp),rfl,rfl,rfl,by omega⟩,fun l' hg=>hX l' hg⟩
  ·rw [c] at hok hX
   exact ⟨gD,[aC (t.ax i),aC (t.ay i),aC (t.bx i),aC (t.sb i),hC false],l,⟨⟨rfl,rfl,rfl,aFV (e:=hC false)⟩,d8 (cD rfl) hok (Nat.succ_pos _) (by simp),rfl,rfl,rfl,by omega⟩,fun l' hg=>hX l' hg⟩
 ·rw [aDC]
  refine Br.of (fun c=>mZ c) fun _=> ?_
  refine aGI t h l (by omega) t.nt K fun l' hl'=>hK l' ?_
  unfold kJ at hl hl'|-
  rw [hl',hl,List.append_assoc];rfl
theorem aGH(t:Trk)(h:aAA t)(b0:List Int)(hb:b0.length<=70000000)(i:Nat)(K:KC)(hK: ∀l:List Int,kJ l b0 (bL (G4 t) 0 t.nr++(bL (BB t) 0 t.nt++(lnW g8 [aC t.sx,aC t.sy,aJ t.head]++lnW oZ [aJ t.laps])))->K (.tup [.str (bytesOf l),.int .i64 0]) [] []):
  aE pnE (cC pnR 0) pnF V7 0 K (.exit 0) (J4 t b0 i):=by
 have hn:=h.nr
 rw [aF4]
 refine ⟨t.nr+1, ?_⟩
 show iter (aF pnE (cC pnR 0) pnF S7 2) (aE pnE (cC pnR 0) pnF S7 0 K) (t.nr+1) (IW t b0 ((0:Nat):Int))
 refine vE (fun l i=>IW t l i) dU (fun i=>dD (t.rx i) (t.ry i) 0 (t.rn i)) t.nr b0 (by omega) (cD rfl) (fun i hi=>⟨mS _ _ _ _,by have:=h.rn i hi;rw [fM];omega⟩) (by omega) (fun i l hi hl X hX=> ?_) fun l hl hle X=> ?_
 ·have hrn:=h.rn i hi
  rw [aDh,aQ hi (by omega),Int.toNat_natCast]
  refine Br.of (fun _=>Br.of (fun _=> ?_) fun c=>oO hi c) fun c=>nZ hi c
  exact ⟨t.rx i,t.ry i,⟨rfl,by omega⟩,dU,_,l,⟨⟨rfl,(fM _ _ _ _).symm,fO _⟩,d8 (cD rfl) (mS _ _ _ _) (by rw [fM];omega) (by rw [fM];omega),rfl,rfl,rfl,by omega⟩,fun l' hg=>hX l' hg⟩
 ·rw [aDh]
  refine Br.of (fun c=>mZ c) fun _=> ?_
  refine aGC t h l (by omega) t.nr K fun l' hl'=>hK l' ?_
  unfold kJ at hl hl'|-
  rw [hl',hl,List.append_assoc];rfl
def kI(t:Trk):ByteArray:=bif (cG t).1 !=0 then ⟨#[]⟩ else bytesOf (vX t)
theorem aEx(t:Trk)(hs:g9 t)(hi:yD t)(K:KC)(hK:K (.tup [.str (kI t),.int .i64 (cG t).1]) [] []):
  BT pnR (fun _=>0) n7 4 8 [.agg (aU t)] [] K:=by
 rw [aBb]
 refine ⟨t,⟨rfl,hs⟩,Br.of (fun c=> ?_) fun c=> ?_⟩
 ·unfold kI at hK;rw [c] at hK;exact hK
 have h0:(cG t).1=0:=bne_eq_false_iff_eq.1 c
 have h:=R5 h0 hi
 have hn:=h.nl
 refine ⟨t,⟨rfl,h.gd⟩,fun l0 g0=>⟨t.nl+1, ?_⟩⟩
 have hl0:l0.length<=700000:=by unfold kJ at g0;rw [g0,List.nil_append];exact yI h.gd
 show iter (aF pnE (cC pnR 0) pnF V7 0) (aE pnE (cC pnR 0) pnF V7 0 K) (t.nl+1) (J4 t l0 ((0:Nat):Int))
 refine vE (fun l i=>J4 t l i) eZ (fun i=>[aC (t.lx i),aC (t.ly i)]) t.nl l0 (by omega) (cD rfl) (fun i _=>⟨aL (fE _) (aL (fE _) dN),by simp⟩) (by omega) (fun i l hi hl X hX=> ?_) fun l hl hle X=> ?_
 ·have hok:dZ [aC (t.lx i),aC (t.ly i)]:=aL (fE _) (aL (fE _) dN)
  rw [aDn,aQ hi (by omega),Int.toNat_natCast]
  refine Br.of (fun _=>Br.of (fun _=> ?_) fun c=>oO hi c) fun c=>nZ hi c
  exact ⟨eZ,_,l,⟨⟨rfl,rfl,rfl,fO _⟩,d8 (cD rfl) hok (Nat.succ_pos _) (by simp),rfl,rfl,rfl,by omega⟩,fun l' hg=>hX l' hg⟩
 ·rw [aDn]
  refine Br.of (fun c=>mZ c) fun _=> ?_
  refine aGH t h l (by omega) t.nl K fun l' hl'=> ?_
  unfold kI at hK
  rw [c,h0] at hK
  have:l'=vX t:=by
   unfold kJ at g0 hl hl'
   unfold vX
   rw [hl',hl,g0,J5,List.nil_append]
   simp only [List.append_assoc];rfl
  rw [this];exact hK
def cPr :List SV->List (Option SB)->KC->Prop
 | [.agg cs],[],K=> ∃t:Trk,(cs=aU t/\g9 t)/\K (.tup [.str (kI t),.int .i64 (cG t).1]) [] []
 |_,_,_=>False
theorem aD2(xs:List SV)(σ:List (Option SB)):Sat Tryz.prog 8 xs σ (cPr xs σ):=by
 intro K hK
 unfold cPr at hK
 split at hK
 case h_2=>exact hK.elim
 obtain ⟨t,⟨rfl,hs⟩,hK⟩:=hK
 exact ⟨_,_,_,hK,zX pnR (fun _=>0) n7 4 (fun p h=>by cases h) fun hok _ K hK=>aEx t hs (ZJ hok.1) K (hK _ fun _ h=>h)⟩
end Go.Proofs.YtghnfjfkjhbgdaaGreatDoor
namespace Go.Se
def vG(all:Int)(b:Bk):((Int×Int)×Int)×Bk:=
 let p:=lnV b (ba g8) 3
 let s:=plP (lnB all b (ba g8) 3) p 0
 ((s.1,jT s.2 (rl (p.getD 2 [])) 0 4294967295),iC s.2 (rl (p.getD 2 [])) 0 4294967295)
def F4(all:Int)(t:TL)(b:Bk):TL×Bk:=
 let l:=cJ (ba eZ) (eQ all) 64 ([],b)
 let r:=cJ (ba dU) (eD all) 16 ([],l.2)
 let g:=cJ (ba gD) (iT all) 16 ([],r.2)
 let s:=vG all g.2
 let n:=EG all (ba oZ) 1 100 s.2
 (⟨t.rate,t.cell,t.cols,t.rows,t.corner,t.heights,t.ground,t.kinds,l.1,r.1,g.1,s.1.1,s.1.2,n.1⟩,n.2)
def cX(all:Int)(b:Bk):TL×Bk:=F4 all (eO all b).1 (eO all b).2
def iU(l:List Int):TL×Int×Int:=
 bif x8 (cX (hJ l) (eE l)).2 !=0 then (TL.zero,x8 (cX (hJ l) (eE l)).2,DH (cX (hJ l) (eE l)).2) else
 bif (cG (cX (hJ l) (eE l)).1.trk).1 !=0 then (TL.zero,(cG (cX (hJ l) (eE l)).1.trk).1,0) else ((cX (hJ l) (eE l)).1,0,0)
def J8(l:List Int)(t:TL)(e at':Int):Prop:=(t,e,at')=iU l
theorem T4{all:Int}{b:Bk}(h:aK b):aK (vG all b).2:=(aK.take h).num.num.int
theorem FT{all:Int}{b:Bk}(h:aK b):(eD all b).1.length<=64:=by
 unfold eD
 simp only
 cases hc:fN b (ba dU) 2 128 with
 |true=>
  simp only [cond_true,List.length_nil]
  exact Nat.zero_le _
 |false=>
  have:=EY h hc
  simp only [cond_false]
  cases (gW b).length%2==1
  ·simp only [cond_false,BH];omega
  ·exact Nat.zero_le _
theorem CZ{α:Type}{w:ByteArray}{one:Bk->α×Bk}{P:α->Prop}(h1: ∀b,aK b->aK (one b).2)(hP: ∀b,aK b->P (one b).1): ∀(n:Nat) (s:List α×Bk),aK s.2->(∀x,x∈s.1->P x)-> ∀x,x∈(cJ w one n s).1->P x
 |0,_,_,h=>h
 |n+1,s,hb,h=>by
  unfold cJ
  cases eY s.2 w
  ·exact h
  ·refine CZ h1 hP n _ (h1 _ hb) fun x hx=> ?_
   rcases List.mem_append.1 hx with hx|hx
   ·exact h x hx
   ·rw [List.mem_singleton.1 hx];exact hP _ hb
theorem JL{t:TL}(h1:t.rails.length<=16)(h2: ∀l,l∈t.rails->l.length<=64):g9 t.trk:=by
 refine ⟨by show t.rails.length<=20;omega,fun i hi=> ?_⟩
 have hi:i<t.rails.length:=hi
 show aCK (aY raL [] t.rails i)<=100
 rw [dM hi]
 have:=h2 _ (List.getElem_mem hi)
 show (t.rails[i]).length<=100
 omega
theorem UK(b:Bk)(l:List Int):IntKind.u32.wrap (jT b l 0 4294967295)=jT b l 0 4294967295:=by
 have:0<=jT b l 0 4294967295/\jT b l 0 4294967295<=4294967295:=by
  rcases wX (b:=b) (l:=l) (lo:=0) (hi:=4294967295) with h|h
  ·rw [h.1];exact ⟨by decide,by decide⟩
  ·exact h
 rw [IntKind.wrap_u32];omega
theorem aAJ{l:List Int}(h:PE (dX l)):cS (hJ l):=⟨by unfold hJ;omega,by have:=h.len;unfold hJ;omega⟩
end Go.Se
namespace Go.Proofs.YtghnfjfkjhbgdaaGreatDoor
open Go.Se
set_option maxRecDepth 100000
noncomputable def o6 :bU Tryz.prog:=((o5).add 32 (zO ugV (isF eO)) aEw).add 14 cRt P5
theorem aGq(s:ByteArray)(K:KC):run o6 4 11 [.str s] [] K=
 (Br (decide (s.size<=1048576)) (∃(e399:Bk),∃(e398:Int),([SV.ro (eE (aA s)).q.length 2 (qG (eE (aA s)).q),SV.int .i64 (hJ (aA s)),SV.int .i64 (eE (aA s)).last,SV.int .i64 (eE (aA s)).err,SV.int .i64 (eE (aA s)).place]=bkC e398 e399/\aK e399/\cS e398)/\(∀(x396:TL),∀(b'395:Bk),∀(_:isF eO e398 e399 x396 b'395),∃(e393:Bk),∃(e392:Int),∃(e391:Nat),(((bkC e398 b'395)=bkC e392 e393/\64=(↑e391:Int)/\34=34)/\aK e393/\cS e392/\e391<=1000)/\(∀(L389:List (Int×Int)),∀(b'388:Bk),∀(_:PR (⟨#[112,111,105,110,116]⟩:ByteArray) (eQ e392) e391 e393 L389 b'388),∃(e386:Bk),∃(e385:Int),∃(e384:Nat),(((bkC e392 b'388)=bkC e385 e386/\16=(↑e384:Int)/\36=36)/\aK e386/\cS e385/\e384<=1000)/\(∀(L382:List (List (Int×Int))),∀(b'381:Bk),∀(_:PR (⟨#[114,97,105,108]⟩:ByteArray) (eD e385) e384 e386 L382 b'381),∃(e379:Bk),∃(e378:Int),∃(e377:Nat),(((bkC e385 b'381)=bkC e378 e379/\16=(↑e377:Int)/\38=38)/\aK e379/\cS e378/\e377<=1000)/\(∀(L375:List (Int×Int×Int×Int×Bool)),∀(b'374:Bk),∀(_:PR (⟨#[103,97,116,101]⟩:ByteArray) (iT e378) e377 e379 L375 b'374),∃(e372:Bk),∃(e371:Int),∃(e370:Nat),(((bkC e378 b'374)=bkC e371 e372/\3=(↑e370:Int))/\aK e372/\cS e371/\0<e370/\e370<=1000)/\(∀(p368:List (List Int)),∀(b'367:Bk),∀(_:uN e371 e372 (⟨#[115,116,97,114,116]⟩:ByteArray) e370 p368 b'367),∃(e365:List (List Int)),∃(e364:Bk),∃(e363:Int),((bkC e371 b'367)=bkC e363 e364/\aH p368=aH e365/\2<=e370)/\(∀(x361:Int),∀(y360:Int),∀(b'359:Bk),∀(_:J7 e364 e365 x361 y360 b'359),Br (true&&decide (2<(↑e370:Int))) (∃(e356:Bk),∃(e355:Int),((bkC e363 b'359)=bkC e355 e356)/\(∀(v353:Int),∀(b'352:Bk),∀(_:MR e356 (bytesOf (p368.getD (Int.toNat 2) [])) 0 4294967295 v353 b'352),∃(e350:Bk),∃(e349:Int),∃(e348:Nat),(((bkC e355 b'352)=bkC e349 e350/\1=(↑e348:Int))/\aK e350/\cS e349/\0<e348/\e348<=1000)/\(∀(p346:List (List Int)),∀(b'345:Bk),∀(_:uN e349 e350 (⟨#[108,97,112,115]⟩:ByteArray) e348 p346 b'345),Br (true&&decide (0<(↑e348:Int))) (∃(e342:Bk),∃(e341:Int),((bkC e349 b'345)=bkC e341 e342)/\(∀(v339:Int),∀(b'338:Bk),∀(_:MR e342 (bytesOf (p346.getD (Int.toNat 0) [])) 1 100 v339 b'338),∃(e336:Bk),∃(e335:Int),((bkC e341 b'338)=bkC e335 e336)/\(Br (x8 e336 !=0) (K (SV.tup [SV.agg [SV.int .i64 0,SV.int .i64 0,SV.int .i64 0,SV.int .i64 0,SV.int .i64 0,SV.int .i64 0,SV.nils,SV.nils,SV.nils,SV.nils,SV.nils,SV.nils,SV.int .i64 0,SV.int .i64 0,SV.int .u32 0,SV.int .i64 0],SV.int .i64 (x8 e336),SV.int .i64 (DH e336)]) [] []) (∃(e332:Trk),([SV.int .i64 x396.rate,SV.int .i64 x396.cell,SV.int .i64 x396.cols,SV.int .i64 x396.rows,SV.int .i64 x396.corner.fst,SV.int .i64 x396.corner.snd,SV.ro x396.heights.length 1 (aY eR 0 x396.heights),SV.ro x396.ground.length 1 (aY eR 0 x396.ground),SV.ro x396.kinds.length 3 (aY kiL (0,0,false) x396.kinds),SV.ro L389.length 2 (aY plL (0,0) L389),SV.ro L382.length 1 (aY raL [] L382),SV.ro L375.length 5 (aY gaL (0,0,0,0,false) L375),SV.int .i64 x361,SV.int .i64 y360,SV.int .u32 (IntKind.u32.wrap v353),SV.int .i64 v339]=aU e332/\g9 e332)/\(Br ((cG e332).fst !=0) (K (SV.tup [SV.agg [SV.int .i64 0,SV.int .i64 0,SV.int .i64 0,SV.int .i64 0,SV.int .i64 0,SV.int .i64 0,SV.nils,SV.nils,SV.nils,SV.nils,SV.nils,SV.nils,SV.int .i64 0,SV.int .i64 0,SV.int .u32 0,SV.int .i64 0],SV.int .i64 (cG e332).fst,SV.int .i64 0]) [] []) (K (SV.tup [SV.agg [SV.int .i64 x396.rate,SV.int .i64 x396.cell,SV.int .i64 x396.cols,SV.int .i64 x396.rows,SV.int .i64 x396.corner.fst,SV.int .i64 x396.corner.snd,SV.ro x396.heights.length 1 (aY eR 0 x396.heights),SV.ro x396.ground.length 1 (aY eR 0 x396.ground),SV.ro x396.kinds.length 3 (aY kiL (0,0,false) x396.kinds),SV.ro L389.length 2 (aY plL (0,0) L389),SV.ro L382.length 1 (aY raL [] L382),SV.ro L375.length 5 (aY gaL (0,0,0,0,false) L375),SV.int .i64 x361,SV.int .i64 y360,SV.int .u32 (IntKind.u32.wrap v353),SV.int .i64 v339],SV.int .i64 0,SV.int .i64 0]) [] [])))))) (False)))) (False)))))))) (False)):=by kernel_rfl
abbrev zC :List SV:=[.int .i64 0,.int .i64 0,.int .i64 0,.int .i64 0,.int .i64 0,.int .i64 0,.nils,.nils,.nils,.nils,.nils,.nils,.int .i64 0,.int .i64 0,.int .u32 0,.int .i64 0]
theorem WX(t:TL):[SV.int .i64 t.rate,SV.int .i64 t.cell,SV.int .i64 t.cols,SV.int .i64 t.rows,SV.int .i64 t.corner.1,SV.int .i64 t.corner.2,SV.ro t.heights.length 1 (aY eR 0 t.heights),SV.ro t.ground.length 1 (aY eR 0 t.ground),SV.ro t.kinds.length 3 (aY kiL (0,0,false) t.kinds),SV.ro t.line.length 2 (aY plL (0,0) t.line),SV.ro t.rails.length 1 (aY raL [] t.rails),SV.ro t.gates.length 5 (aY gaL (0,0,0,0,false) t.gates),SV.int .i64 t.start.1,SV.int .i64 t.start.2,SV.int .u32 t.head,SV.int .i64 t.laps]=aU t.trk:=
 nM t.shape _ _ _ _ _ _ _ _ _ _ _ _ _ _ _ _
theorem aD9 (s:ByteArray) (hs:s.size<=1048576) (K:KC)
  (hK:(∀e a,iU (aA s)=(TL.zero,e,a)->K (.tup [.agg zC,.int .i64 e,.int .i64 a]) [] [])/\ ∀t,iU (aA s)=(t,0,0)->K (.tup [.agg (aU t.trk),.int .i64 0,.int .i64 0]) [] []):
  run o6 4 11 [.str s] [] K:=by
 have hL:=u7 hs
 have hb:=GQ hL
 have ha:=aAJ hL
 rw [aGq]
 refine Br.of (fun _=>⟨eE (aA s),hJ (aA s),⟨rfl,hb,ha⟩,fun x b0 h0=> ?_⟩) fun c=>absurd hs (of_decide_eq_false c)
 have hk0:aK b0:=by rw [(mQ h0).2];exact BK hb
 have hrest:cX (hJ (aA s)) (eE (aA s))=F4 (hJ (aA s)) x b0:=by unfold cX;rw [(mQ h0).1,(mQ h0).2]
 unfold iU at hK
 rw [hrest] at hK
 clear hrest h0
 generalize hJ (aA s)=all at*
 refine ⟨b0,all,64,⟨⟨rfl,rfl,rfl⟩,hk0,ha,by decide⟩,fun L1 b1 h1=> ?_⟩
 have e1:cJ (ba eZ) (eQ all) 64 ([],b0)=(L1,b1):=Eq.symm h1
 have k1:aK b1:=by have:=pL (w:=ba eZ) (fun b h=>xD (all:=all) (b:=b) h) 64 ([],b0) hk0;rw [e1] at this;exact this
 refine ⟨b1,all,16,⟨⟨rfl,rfl,rfl⟩,k1,ha,by decide⟩,fun L2 b2 h2=> ?_⟩
 have e2:cJ (ba dU) (eD all) 16 ([],b1)=(L2,b2):=Eq.symm h2
 have k2:aK b2:=by have:=pL (w:=ba dU) (fun b h=>wM (all:=all) (b:=b) h) 16 ([],b1) k1;rw [e2] at this;exact this
 have l2:L2.length<=16:=by have:=xQ (w:=ba dU) (one:=eD all) 16 ([],b1);rw [e2] at this;simpa using this
 have m2: ∀l,l∈L2->l.length<=64:=by have:=CZ (w:=ba dU) (one:=eD all) (P:=fun l=>l.length<=64) (fun b h=>wM h) (fun b h=>FT h) 16 ([],b1) k1 (fun x hx=>by cases hx);rw [e2] at this;exact this
 refine ⟨b2,all,16,⟨⟨rfl,rfl,rfl⟩,k2,ha,by decide⟩,fun L3 b3 h3=> ?_⟩
 have e3:cJ (ba gD) (iT all) 16 ([],b2)=(L3,b3):=Eq.symm h3
 have k3:aK b3:=by have:=pL (w:=ba gD) (fun b h=>JV (all:=all) (b:=b) h) 16 ([],b2) k2;rw [e3] at this;exact this
 refine ⟨b3,all,3,⟨⟨rfl,rfl⟩,k3,ha,by decide,by decide⟩,fun p4 b4 h4=>⟨p4,b4,all,⟨rfl,rfl,by decide⟩,fun x4 y4 b5 h5=>⟨b5,all,rfl,fun v5 b6 h6=> ?_⟩⟩⟩
 obtain ⟨⟨rfl,_⟩,rfl⟩:=h4
 obtain ⟨hxy,rfl⟩:=h5
 obtain ⟨hv5,hb6⟩:=h6
 have e4:vG all b3=(((x4,y4),v5),b6):=by rw [hxy,hv5,hb6];rfl
 have k4:aK b6:=by have:=T4 (all:=all) k3;rw [e4] at this;exact this
 have w4:IntKind.u32.wrap v5=v5:=by rw [hv5];exact UK _ _
 clear hxy hv5 hb6
 refine ⟨b6,all,1,⟨⟨rfl,rfl⟩,k4,ha,by decide,by decide⟩,fun p6 b7 h7=>⟨b7,all,rfl,fun v6 b8 h8=>⟨b8,all,rfl, ?_⟩⟩⟩
 obtain ⟨⟨rfl,_⟩,rfl⟩:=h7
 obtain ⟨hv6,hb8⟩:=h8
 have e5:EG all (ba oZ) 1 100 b6=(v6,b8):=by rw [hv6,hb8];rfl
 clear hv6 hb8
 have hr:F4 all x b0=(⟨x.rate,x.cell,x.cols,x.rows,x.corner,x.heights,x.ground,x.kinds,L1,L2,L3,(x4,y4),v5,v6⟩,b8):=by
  unfold F4
  rw [e1];simp only
  rw [e2];simp only
  rw [e3];simp only
  rw [e4];simp only
  rw [e5]
 rw [hr] at hK
 simp only at hK
 rw [w4]
 generalize ht:(⟨x.rate,x.cell,x.cols,x.rows,x.corner,x.heights,x.ground,x.kinds,L1,L2,L3,(x4,y4),v5,v6⟩:TL)=t at hK
 have hsm:g9 t.trk:=JL (by rw [<- ht];exact l2) (by rw [<- ht];exact m2)
 have hc:[SV.int .i64 x.rate,SV.int .i64 x.cell,SV.int .i64 x.cols,SV.int .i64 x.rows,SV.int .i64 x.corner.fst,SV.int .i64 x.corner.snd,SV.ro x.heights.length 1 (aY eR 0 x.heights),SV.ro x.ground.length 1 (aY eR 0 x.ground),SV.ro x.kinds.length 3 (aY kiL (0,0,false) x.kinds),SV.ro L1.length 2 (aY plL (0,0) L1),SV.ro L2.length 1 (aY raL [] L2),SV.ro L3.length 5 (aY gaL (0,0,0,0,false) L3),SV.int .i64 x4,SV.int .i64 y4,SV.int .u32 v5,SV.int .i64 v6]=aU t.trk:=by
  rw [<- ht]
  exact WX ⟨x.rate,x.cell,x.cols,x.rows,x.corner,x.heights,x.ground,x.kinds,L1,L2,L3,(x4,y4),v5,v6⟩
 rw [hc]
 refine Br.of (fun c=> ?_) fun c=>⟨t.trk,⟨rfl,hsm⟩,Br.of (fun c2=> ?_) fun c2=> ?_⟩
 ·rw [c] at hK;exact hK.1 _ _ rfl
 ·rw [c,c2] at hK;exact hK.1 _ _ rfl
 ·rw [c,c2] at hK;exact hK.2 _ rfl
theorem aEy{ρ:aG}{T:Nat->Prop}{w:World}{v:Value}(hv:rel ρ T w (.agg zC) v):rel ρ T w (.agg (aU TL.zero.trk)) v:=by
 obtain ⟨a,rfl,v1,l1,z1,q1,v2,l2,z2,q2,v3,l3,z3,q3,v4,l4,z4,q4,v5,l5,z5,q5,v6,l6,z6,q6,v7,l7,z7,q7,v8,l8,z8,q8,v9,l9,z9,q9,v10,l10,z10,q10,v11,l11,z11,q11,v12,l12,z12,q12,q13⟩:=hv
 exact ⟨a,rfl,v1,l1,z1,q1,v2,l2,z2,q2,v3,l3,z3,q3,v4,l4,z4,q4,v5,l5,z5,q5,v6,l6,z6,q6,v7,l7,z7,fY q7,v8,l8,z8,fY q8,v9,l9,z9,fY q9,v10,l10,z10,fY q10,v11,l11,z11,fY q11,v12,l12,z12,fY q12,q13⟩
theorem KZ(l:List Int):(∃e a,iU l=(TL.zero,e,a))\/ ∃t,iU l=(t,0,0):=by
 unfold iU
 cases x8 (cX (hJ l) (eE l)).2 !=0
 ·cases (cG (cX (hJ l) (eE l)).1.trk).1 !=0
  ·exact .inr ⟨_,rfl⟩
  ·exact .inl ⟨_,_,rfl⟩
 ·exact .inl ⟨_,_,rfl⟩
theorem aEU(s:ByteArray)(hs:s.size<=1048576):aD Tryz.prog 11 [.str s] [] (.tup [.agg (aU (iU (aA s)).1.trk),.int .i64 (iU (aA s)).2.1,.int .i64 (iU (aA s)).2.2]) [] []:=by
 obtain ⟨v,σ',d,hv,hc⟩:=cA (env:=tab.env o6 (fun _=>0) (fun _=>false)) ⟨tab.htt,o6.ok⟩ tab.mixed (fun n=>bF n []) tab.hft 4 _ _ _
  (fun v σ' d=>((∃e a,iU (aA s)=(TL.zero,e,a)/\v= .tup [.agg zC,.int .i64 e,.int .i64 a])\/ ∃t,iU (aA s)=(t,0,0)/\v= .tup [.agg (aU t.trk),.int .i64 0,.int .i64 0])/\σ'=[]/\d=[])
  (aD9 s hs _ ⟨fun e a h=>⟨.inl ⟨e,a,h,rfl⟩,rfl,rfl⟩,fun t h=>⟨.inr ⟨t,h,rfl⟩,rfl,rfl⟩⟩)
 obtain ⟨hv,rfl,rfl⟩:=hv
 rcases hv with ⟨e,a,h,rfl⟩|⟨t,h,rfl⟩
 ·rw [h]
  exact qP (v:= .tup [.agg zC,.int .i64 e,.int .i64 a]) (fun ρ T w z ⟨x,e1,v1,l1,e2,q1,q2⟩=>⟨x,e1,v1,l1,e2,aEy q1,q2⟩) hc
 ·rw [h];exact hc
def cPa :List SV->List (Option SB)->KC->Prop
 | [.str s],[],K=>s.size<=1048576/\ ∀t e a,J8 (aA s) t e a->K (.tup [.agg (aU t.trk),.int .i64 e,.int .i64 a]) [] []
 |_,_,_=>False
theorem aBh(xs:List SV)(σ:List (Option SB)):Sat Tryz.prog 11 xs σ (cPa xs σ):=by
 intro K hK
 unfold cPa at hK
 split at hK
 case h_2=>exact hK.elim
 exact ⟨_,_,_,hK.2 _ _ _ rfl,aEU _ hK.1⟩
noncomputable def o7 :bU Tryz.prog:=((o6).add 11 cPa aBh).add 8 cPr aD2
end Go.Proofs.YtghnfjfkjhbgdaaGreatDoor
namespace Go.Proofs.YtghnfjfkjhbgdaaGreatDoor
open Go.Se
set_option maxRecDepth 100000
end Go.Proofs.YtghnfjfkjhbgdaaGreatDoor
namespace Go.Proofs.YtghnfjfkjhbgdaaGreatDoor
open Go.Se
set_option maxRecDepth 100000
end Go.Proofs.YtghnfjfkjhbgdaaGreatDoor
namespace Go.Proofs.YtghnfjfkjhbgdaaGreatDoor
open Go.Se
set_option maxRecDepth 100000
end Go.Proofs.YtghnfjfkjhbgdaaGreatDoor
namespace Go.Proofs.YtghnfjfkjhbgdaaGreatDoor
open Go.Se
set_option maxRecDepth 100000
end Go.Proofs.YtghnfjfkjhbgdaaGreatDoor
namespace Go.Se
structure Rs where
 pos:Int
 last:Int
 err:Int
 place:Int
def aFY :List Int->Int
 | []=>0
 |b::r=>b+256*aFY r
def aGm(B:List Int)(n:Nat)(s:Rs):Option (List Int)×Rs:=
 bif s.err !=0 then (none,s) else bif decide ((n:Int)>(B.length:Int) - s.pos) then (none,⟨s.pos,s.last,20,B.length⟩) else (some ((B.drop s.pos.toNat).take n),⟨s.pos+n,s.pos,s.err,s.place⟩)
def HC(B:List Int)(s:Rs):Int×Rs:=match aGm B 8 s with
 |(some w,s)=>(IntKind.i64.wrap (aFY w),s)
 |(none,s)=>(0,s)
def aGo(B:List Int)(s:Rs):Prop:=0<=s.pos/\s.pos<=(B.length:Int)
structure aGQ {α:Type} (rd:List Int->Rs->α×Rs):Prop where
 ok: ∀B s,aGo B s->aGo B (rd B s).2
 stuck: ∀B s,s.err≠0->(rd B s).2=s
section
variable {lo hi:Int} {m B w:List Int} {s s':Rs}
end
end Go.Se
namespace Go.Se
variable {P:Program}
end Go.Se
namespace Go.Se
theorem ZS{b:Bool}(h:b=true):(!b)=false:=by rw [h];rfl
def uU :List SV->List (Option SB)->KC->Prop
 | [.agg [.int .i64 a0,.int .i64 a1,.int .i64 a2,.int .i64 a3,.int .i64 a4,.int .i64 a5,.ro anh 1 ah,.ro ang 1 ag,.ro ank 3 akg,.ro anl 2 al,.ro anr 1 arl,.ro ant 5 agt,.int .i64 asx,.int .i64 asy,.int .u32 ahd,.int .i64 alp],.agg [.int .i64 b0,.int .i64 b1,.int .i64 b2,.int .i64 b3,.int .i64 b4,.int .i64 b5,.ro bnh 1 bh,.ro bng 1 bg,.ro bnk 3 bkg,.ro bnl 2 bl,.ro bnr 1 brl,.ro bnt 5 bgt,.int .i64 bsx,.int .i64 bsy,.int .u32 bhd,.int .i64 blp]],[],K=>lY ah ag akg al arl agt/\lY bh bg bkg bl brl bgt/\rD (mG a0 a1 a2 a3 a4 a5 anh ah ang ag ank akg anl al anr arl ant agt asx asy ahd alp) (mG b0 b1 b2 b3 b4 b5 bnh bh bng bg bnk bkg bnl bl bnr brl bnt bgt bsx bsy bhd blp)/\K (.bool true) [] []
 |_,_,_=>False
theorem CI{P:Program}{k:FuncId}(h: ∀t u:Trk,rD t u->aD P k [.agg (aU t),.agg (aU u)] [] (.bool true) [] [])(xs:List SV)(σ:List (Option SB)):Sat P k xs σ (uU xs σ):=by
 intro K hK
 unfold uU at hK
 split at hK
 ·obtain ⟨h1,h2,h3,hK⟩:=hK
  refine ⟨_,_,_,hK, ?_⟩
  rw [nM h1,nM h2]
  exact h _ _ h3
 ·exact hK.elim
theorem A2{t:Trk}(h:okL (aU t)):t.nh<9223372036854775808/\t.ng<9223372036854775808/\t.nk<9223372036854775808/\t.nl<9223372036854775808/\t.nr<9223372036854775808/\t.nt<9223372036854775808:=by
 obtain ⟨_,_,_,_,_,_,h1,h2,h3,h4,h5,h6,_⟩:=h
 exact ⟨h1.1,h2.1,h3.1,h4.1,h5.1,h6.1⟩
end Go.Se
namespace Go.Proofs.YtghnfjfkjhbgdaaGreatDoor
open Go.Se
set_option maxRecDepth 100000
def svR :List (Nat×e9):=[(0,⟨[0,1,4,5],[],[],0,[]⟩)]
def svS(n m:Nat)(x y x' y':Nat->Int)(i:Int):St:=⟨[(0,.ro n 2 (bT x y)),(1,.ro m 2 (bT x' y')),(4,.bool false),(5,.int .i64 i)],[],0,[],26⟩
noncomputable abbrev svE :Env:=gC svR (fun _=>0) o7 1
noncomputable abbrev svF :Func:=Tryz.f54
abbrev svP :List Nat:=[1,1,0,1,0]
theorem aA0(n m:Nat)(x y x' y':Nat->Int)(K:KC):eL svR (fun _=>0) o7 2 54 [.ro n 2 (bT x y),.ro m 2 (bT x' y')] [] K=
 (Br ((↑n:Int) !=(↑m:Int)) (K (SV.bool false) [] []) (∃q_,bS svE (aB svR 0) svF svP 0 0 K q_ {tmps:=[(0,SV.ro n 2 (bT x y)),(1,SV.ro m 2 (bT x' y')),(4,SV.bool false),(5,SV.int .i64 0)],store:=[],nxt:=0,dirty:=[],nt:=26})):=by kernel_rfl
theorem L9(n m:Nat)(x y x' y':Nat->Int)(i:Nat)(K:Ex->St->Prop):aF svE (aB svR 0) svF svP 0 K (svS n m x y x' y' i)=
 (Br (decide ((↑i:Int)<(↑n:Int))) (Br (decide (0<=(↑i:Int))&&decide ((↑i:Int)<(↑n:Int))) (Br (decide (0<=(↑i:Int))&&decide ((↑i:Int)<(↑m:Int))) (Br (!(x (↑i:Int).toNat==x' (↑i:Int).toNat&&y (↑i:Int).toNat==y' (↑i:Int).toNat)) (K Ex.ret {tmps:=[(0,SV.ro n 2 (bT x y)),(1,SV.ro m 2 (bT x' y')),(4,SV.bool false),(5,SV.int .i64 (↑i:Int))],store:=[],nxt:=0,dirty:=[],nt:=26}) (K Ex.normal {tmps:=[(0,SV.ro n 2 (bT x y)),(1,SV.ro m 2 (bT x' y')),(4,SV.bool false),(5,SV.int .i64 (IntKind.i64.wrap ((↑i:Int)+1)))],store:=[],nxt:=0,dirty:=[],nt:=26})) (False)) (False)) (K (Ex.exit 0) {tmps:=[(0,SV.ro n 2 (bT x y)),(1,SV.ro m 2 (bT x' y')),(4,SV.bool false),(5,SV.int .i64 (↑i:Int))],store:=[],nxt:=0,dirty:=[],nt:=26})):=by kernel_rfl
theorem ZP(n m:Nat)(x y x' y':Nat->Int)(i:Nat)(K:KC):aE svE (aB svR 0) svF svP 0 K (.exit 0) (svS n m x y x' y' i)=
 (K (SV.bool true) [] []):=by kernel_rfl
def gvR :List (Nat×e9):=[(0,⟨[2,3,4,5],[0,1],[0,1],2,[]⟩),(2,⟨[2,3,4,6],[0,1],[0,1],2,[]⟩),(4,⟨[2,3,4,7],[0,1],[0,1],2,[]⟩)]
def gvS(nt:Nat)(t u:Trk)(v:Nat)(i:Int):St:=⟨[(2,.ptr 0 0),(3,.ptr 1 0),(4,.bool false),(v,.int .i64 i)],[(0,some (.cells 34 (aU t))),(1,some (.cells 34 (aU u)))],2,[0,1],nt⟩
noncomputable abbrev gvE :Env:=gC gvR (fun _=>0) o7 1
noncomputable abbrev gvF :Func:=Tryz.f53
abbrev aCk :List Nat:=[1,1,0,1,0]
abbrev aDa :List Nat:=[1,1,1,0,1,0]
abbrev aBV :List Nat:=[1,1,1,1,0,1,0]
theorem YB(t u:Trk)(K:KC):eL gvR (fun _=>0) o7 2 53 [.agg (aU t),.agg (aU u)] [] K=
 (Br (t.rate !=u.rate) (K (SV.bool false) [] []) (Br (t.cell !=u.cell) (K (SV.bool false) [] []) (Br (t.cols !=u.cols) (K (SV.bool false) [] []) (Br (t.rows !=u.rows) (K (SV.bool false) [] []) (Br (!(t.cx==u.cx&&t.cy==u.cy)) (K (SV.bool false) [] []) (Br ((↑t.nh:Int) !=(↑u.nh:Int)) (K (SV.bool false) [] []) (Br ((↑t.ng:Int) !=(↑u.ng:Int)) (K (SV.bool false) [] []) (Br ((↑t.nk:Int) !=(↑u.nk:Int)) (K (SV.bool false) [] []) (∃q_,bS gvE (aB gvR 0) gvF aCk 0 0 K q_ {tmps:=[(2,SV.ptr 0 0),(3,SV.ptr 1 0),(4,SV.bool false),(5,SV.int .i64 0)],store:=[(0,some (SB.cells 34 (aU t))),(1,some (SB.cells 34 (aU u)))],nxt:=2,dirty:=[0,1],nt:=122}))))))))):=by kernel_rfl
theorem aDH(t u:Trk)(i:Nat)(K:Ex->St->Prop):aF gvE (aB gvR 0) gvF aCk 0 K (gvS 122 t u 5 i)=
 (Br (decide ((↑i:Int)<(↑t.nh:Int))) (Br (decide (0<=(↑i:Int))&&decide ((↑i:Int)<(↑t.nh:Int))) (Br (decide (0<=(↑i:Int))&&decide ((↑i:Int)<(↑u.nh:Int))) (Br (t.h (↑i:Int).toNat !=u.h (↑i:Int).toNat) (K Ex.ret {tmps:=[(2,SV.ptr 0 0),(3,SV.ptr 1 0),(4,SV.bool false),(5,SV.int .i64 (↑i:Int))],store:=[(0,some (SB.cells 34 (aU t))),(1,some (SB.cells 34 (aU u)))],nxt:=2,dirty:=[0,1],nt:=122}) (K Ex.normal {tmps:=[(2,SV.ptr 0 0),(3,SV.ptr 1 0),(4,SV.bool false),(5,SV.int .i64 (IntKind.i64.wrap ((↑i:Int)+1)))],store:=[(0,some (SB.cells 34 (aU t))),(1,some (SB.cells 34 (aU u)))],nxt:=2,dirty:=[0,1],nt:=122})) (False)) (False)) (K (Ex.exit 0) {tmps:=[(2,SV.ptr 0 0),(3,SV.ptr 1 0),(4,SV.bool false),(5,SV.int .i64 (↑i:Int))],store:=[(0,some (SB.cells 34 (aU t))),(1,some (SB.cells 34 (aU u)))],nxt:=2,dirty:=[0,1],nt:=122})):=by kernel_rfl
theorem aDz(t u:Trk)(i:Nat)(K:Ex->St->Prop):aF gvE (aB gvR 0) gvF aDa 2 K (gvS 122 t u 6 i)=
 (Br (decide ((↑i:Int)<(↑t.ng:Int))) (Br (decide (0<=(↑i:Int))&&decide ((↑i:Int)<(↑t.ng:Int))) (Br (decide (0<=(↑i:Int))&&decide ((↑i:Int)<(↑u.ng:Int))) (Br (t.g (↑i:Int).toNat !=u.g (↑i:Int).toNat) (K Ex.ret {tmps:=[(2,SV.ptr 0 0),(3,SV.ptr 1 0),(4,SV.bool false),(6,SV.int .i64 (↑i:Int))],store:=[(0,some (SB.cells 34 (aU t))),(1,some (SB.cells 34 (aU u)))],nxt:=2,dirty:=[0,1],nt:=122}) (K Ex.normal {tmps:=[(2,SV.ptr 0 0),(3,SV.ptr 1 0),(4,SV.bool false),(6,SV.int .i64 (IntKind.i64.wrap ((↑i:Int)+1)))],store:=[(0,some (SB.cells 34 (aU t))),(1,some (SB.cells 34 (aU u)))],nxt:=2,dirty:=[0,1],nt:=122})) (False)) (False)) (K (Ex.exit 2) {tmps:=[(2,SV.ptr 0 0),(3,SV.ptr 1 0),(4,SV.bool false),(6,SV.int .i64 (↑i:Int))],store:=[(0,some (SB.cells 34 (aU t))),(1,some (SB.cells 34 (aU u)))],nxt:=2,dirty:=[0,1],nt:=122})):=by kernel_rfl
theorem aDE(t u:Trk)(i:Nat)(K:Ex->St->Prop):aF gvE (aB gvR 0) gvF aBV 4 K (gvS 122 t u 7 i)=
 (Br (decide ((↑i:Int)<(↑t.nk:Int))) (Br (decide (0<=(↑i:Int))&&decide ((↑i:Int)<(↑t.nk:Int))) (Br (decide (0<=(↑i:Int))&&decide ((↑i:Int)<(↑u.nk:Int))) (Br (!(t.kg (↑i:Int).toNat==u.kg (↑i:Int).toNat&&(t.kd (↑i:Int).toNat==u.kd (↑i:Int).toNat&&t.ko (↑i:Int).toNat==u.ko (↑i:Int).toNat))) (K Ex.ret {tmps:=[(2,SV.ptr 0 0),(3,SV.ptr 1 0),(4,SV.bool false),(7,SV.int .i64 (↑i:Int))],store:=[(0,some (SB.cells 34 (aU t))),(1,some (SB.cells 34 (aU u)))],nxt:=2,dirty:=[0,1],nt:=122}) (K Ex.normal {tmps:=[(2,SV.ptr 0 0),(3,SV.ptr 1 0),(4,SV.bool false),(7,SV.int .i64 (IntKind.i64.wrap ((↑i:Int)+1)))],store:=[(0,some (SB.cells 34 (aU t))),(1,some (SB.cells 34 (aU u)))],nxt:=2,dirty:=[0,1],nt:=122})) (False)) (False)) (K (Ex.exit 4) {tmps:=[(2,SV.ptr 0 0),(3,SV.ptr 1 0),(4,SV.bool false),(7,SV.int .i64 (↑i:Int))],store:=[(0,some (SB.cells 34 (aU t))),(1,some (SB.cells 34 (aU u)))],nxt:=2,dirty:=[0,1],nt:=122})):=by kernel_rfl
theorem aGk(t u:Trk)(i:Nat)(K:KC):aE gvE (aB gvR 0) gvF aCk 0 K (.exit 0) (gvS 122 t u 5 i)=
 (∃q_,bS gvE (aB gvR 0) gvF aDa 2 0 K q_ {tmps:=[(2,SV.ptr 0 0),(3,SV.ptr 1 0),(4,SV.bool false),(6,SV.int .i64 0)],store:=[(0,some (SB.cells 34 (aU t))),(1,some (SB.cells 34 (aU u)))],nxt:=2,dirty:=[0,1],nt:=122}):=by kernel_rfl
theorem aFW(t u:Trk)(i:Nat)(K:KC):aE gvE (aB gvR 0) gvF aDa 0 K (.exit 2) (gvS 122 t u 6 i)=
 (∃q_,bS gvE (aB gvR 0) gvF aBV 4 0 K q_ {tmps:=[(2,SV.ptr 0 0),(3,SV.ptr 1 0),(4,SV.bool false),(7,SV.int .i64 0)],store:=[(0,some (SB.cells 34 (aU t))),(1,some (SB.cells 34 (aU u)))],nxt:=2,dirty:=[0,1],nt:=122}):=by kernel_rfl
theorem aGl(t u:Trk)(i:Nat)(K:KC):aE gvE (aB gvR 0) gvF aBV 0 K (.exit 4) (gvS 122 t u 7 i)=
 (K (SV.bool true) [] []):=by kernel_rfl
theorem aE7{n m:Nat}{x y x' y':Nat->Int}(hm:n=m)(h: ∀i,i<n->x i=x' i/\y i=y' i)(hn:n<9223372036854775808)(K:KC)(hK:K (.bool true) [] []):eL svR (fun _=>0) o7 2 54 [.ro n 2 (bT x y),.ro m 2 (bT x' y')] [] K:=by
 rw [aA0,V6 hm]
 refine ⟨n+1,jC (fun i:Nat=>svS n m x y x' y' i) n (fun _=>True) (fun i hi _ X hX=> ?_) (fun _ X=> ?_) trivial⟩
 ·rw [L9,aQ hi hn]
  obtain ⟨h1,h2⟩:=h i hi
  exact wC hi hm (ZS (by simp [h1,h2])) (hX trivial)
 ·rw [L9]
  refine Br.of (fun c=>mZ c) fun _=> ?_
  show aE svE (aB svR 0) svF svP 0 K (.exit 0) (svS n m x y x' y' n)
  rw [ZP];exact hK
def AS :List SV->List (Option SB)->KC->Prop
 | [.ro n 2 g,.ro m 2 h],[],K=>pts g/\pts h/\(n=m/\ ∀i,i<n->px (g i)=px (h i)/\py (g i)=py (h i))/\K (.bool true) [] []
 |_,_,_=>False
theorem JX(xs:List SV)(σ:List (Option SB)):Sat Tryz.prog 54 xs σ (AS xs σ):=by
 intro K hK
 unfold AS at hK
 split at hK
 ·obtain ⟨h1,h2,⟨h3,h4⟩,hK⟩:=hK
  refine ⟨_,_,_,hK, ?_⟩
  rw [yC h1,yC h2]
  exact iF svR (fun _=>0) o7 2 (fun p hp=>by cases hp) fun h5 _ K hK=>aE7 h3 h4 h5.1.1 K (hK _ fun _ h=>h)
 ·exact hK.elim
theorem aEd{t u:Trk}(h:rD t u)(n1:t.nh<9223372036854775808)(n2:t.ng<9223372036854775808)(n3:t.nk<9223372036854775808)(K:KC)(hK:K (.bool true) [] []):eL gvR (fun _=>0) o7 2 53 [.agg (aU t),.agg (aU u)] [] K:=by
 obtain ⟨⟨a1,a2,a3,a4,a5,a6,a7,a8,a9⟩,b1,b2,b3,_⟩:=h
 rw [YB,IM a1,IM a2,IM a3,IM a4,show (!(t.cx==u.cx&&t.cy==u.cy))=false from ZS (by simp [a5,a6]),V6 a7,V6 a8,V6 a9]
 refine ⟨t.nh+1,jC (fun i:Nat=>gvS 122 t u 5 i) t.nh (fun _=>True) (fun i hi _ X hX=> ?_) (fun _ X=> ?_) trivial⟩
 ·rw [aDH,aQ hi n1]
  exact wC hi a7 (IM (b1 i hi)) (hX trivial)
 rw [aDH]
 refine Br.of (fun c=>mZ c) fun _=> ?_
 show aE gvE (aB gvR 0) gvF aCk 0 K (.exit 0) (gvS 122 t u 5 t.nh)
 rw [aGk]
 refine ⟨t.ng+1,jC (fun i:Nat=>gvS 122 t u 6 i) t.ng (fun _=>True) (fun i hi _ X hX=> ?_) (fun _ X=> ?_) trivial⟩
 ·rw [aDz,aQ hi n2]
  exact wC hi a8 (IM (b2 i hi)) (hX trivial)
 rw [aDz]
 refine Br.of (fun c=>mZ c) fun _=> ?_
 show aE gvE (aB gvR 0) gvF aDa 0 K (.exit 2) (gvS 122 t u 6 t.ng)
 rw [aFW]
 refine ⟨t.nk+1,jC (fun i:Nat=>gvS 122 t u 7 i) t.nk (fun _=>True) (fun i hi _ X hX=> ?_) (fun _ X=> ?_) trivial⟩
 ·rw [aDE,aQ hi n3]
  obtain ⟨c1,c2,c3⟩:=b3 i hi
  exact wC hi a9 (ZS (by simp [c1,c2,c3])) (hX trivial)
 rw [aDE]
 refine Br.of (fun c=>mZ c) fun _=> ?_
 show aE gvE (aB gvR 0) gvF aBV 0 K (.exit 4) (gvS 122 t u 7 t.nk)
 rw [aGl];exact hK
theorem LH(xs:List SV)(σ:List (Option SB)):Sat Tryz.prog 53 xs σ (uU xs σ):=
 CI (fun _ _ h=>iF gvR (fun _=>0) o7 2 (fun p hp=>by cases hp) fun h5 _ K hK=>aEd h (A2 h5.1).1 (A2 h5.1).2.1 (A2 h5.1).2.2.1 K (hK _ fun _ h=>h)) xs σ
noncomputable def oa :bU Tryz.prog:=((o7).add 54 AS JX).add 53 uU LH
def saR :List (Nat×e9):=[(0,⟨[2,3,4,5],[0,1],[0,1],2,[]⟩),(2,⟨[2,3,4,6],[0,1],[0,1],2,[]⟩)]
noncomputable abbrev saE :Env:=gC saR (fun _=>0) oa 1
noncomputable abbrev saF :Func:=Tryz.f13
abbrev aBy :List Nat:=[1,1,0,1,0]
abbrev aBL :List Nat:=[1,1,1,0,1,0]
theorem W8(t u:Trk)(K:KC):eL saR (fun _=>0) oa 2 13 [.agg (aU t),.agg (aU u)] [] K=
 ((lY (aM t.h) (aM t.g) (eS t) (bT t.lx t.ly) (cB t) (eN t))/\((lY (aM u.h) (aM u.g) (eS u) (bT u.lx u.ly) (cB u) (eN u))/\((rD t u)/\((pts (bT t.lx t.ly))/\((pts (bT u.lx u.ly))/\((t.nl=u.nl/\ ∀(i:Nat),i<t.nl->px (bT t.lx t.ly i)=px (bT u.lx u.ly i)/\py (bT t.lx t.ly i)=py (bT u.lx u.ly i))/\(Br ((↑t.nr:Int) !=(↑u.nr:Int)) (K (SV.bool false) [] []) (Br ((↑t.nt:Int) !=(↑u.nt:Int)) (K (SV.bool false) [] []) (Br (!(t.sx==u.sx&&t.sy==u.sy)) (K (SV.bool false) [] []) (Br (t.head !=u.head) (K (SV.bool false) [] []) (Br (t.laps !=u.laps) (K (SV.bool false) [] []) (∃q_,bS saE (aB saR 0) saF aBy 0 0 K q_ {tmps:=[(2,SV.ptr 0 0),(3,SV.ptr 1 0),(4,SV.bool false),(5,SV.int .i64 0)],store:=[(0,some (SB.cells 34 (aU t))),(1,some (SB.cells 34 (aU u)))],nxt:=2,dirty:=[0,1],nt:=95})))))))))))):=by kernel_rfl
theorem aDB(t u:Trk)(i:Nat)(K:Ex->St->Prop):aF saE (aB saR 0) saF aBy 0 K (gvS 95 t u 5 i)=
 (Br (decide ((↑i:Int)<(↑t.nr:Int))) (Br (decide (0<=(↑i:Int))&&decide ((↑i:Int)<(↑t.nr:Int))) (Br (decide (0<=(↑i:Int))&&decide ((↑i:Int)<(↑u.nr:Int))) ((pts (bT (t.rx (↑i:Int).toNat) (t.ry (↑i:Int).toNat)))/\((pts (bT (u.rx (↑i:Int).toNat) (u.ry (↑i:Int).toNat)))/\((t.rn (↑i:Int).toNat=u.rn (↑i:Int).toNat/\ ∀(i_1:Nat),i_1<t.rn (↑i:Int).toNat->px (bT (t.rx (↑i:Int).toNat) (t.ry (↑i:Int).toNat) i_1)=px (bT (u.rx (↑i:Int).toNat) (u.ry (↑i:Int).toNat) i_1)/\py (bT (t.rx (↑i:Int).toNat) (t.ry (↑i:Int).toNat) i_1)=py (bT (u.rx (↑i:Int).toNat) (u.ry (↑i:Int).toNat) i_1))/\(K Ex.normal {tmps:=[(2,SV.ptr 0 0),(3,SV.ptr 1 0),(4,SV.bool false),(5,SV.int .i64 (IntKind.i64.wrap ((↑i:Int)+1)))],store:=[(0,some (SB.cells 34 (aU t))),(1,some (SB.cells 34 (aU u)))],nxt:=2,dirty:=[0,1],nt:=95})))) (False)) (False)) (K (Ex.exit 0) {tmps:=[(2,SV.ptr 0 0),(3,SV.ptr 1 0),(4,SV.bool false),(5,SV.int .i64 (↑i:Int))],store:=[(0,some (SB.cells 34 (aU t))),(1,some (SB.cells 34 (aU u)))],nxt:=2,dirty:=[0,1],nt:=95})):=by kernel_rfl
theorem aDg(t u:Trk)(i:Nat)(K:Ex->St->Prop):aF saE (aB saR 0) saF aBL 2 K (gvS 95 t u 6 i)=
 (Br (decide ((↑i:Int)<(↑t.nt:Int))) (Br (decide (0<=(↑i:Int))&&decide ((↑i:Int)<(↑t.nt:Int))) (Br (decide (0<=(↑i:Int))&&decide ((↑i:Int)<(↑u.nt:Int))) (Br (!(t.ax (↑i:Int).toNat==u.ax (↑i:Int).toNat&&t.ay (↑i:Int).toNat==u.ay (↑i:Int).toNat&&(t.bx (↑i:Int).toNat==u.bx (↑i:Int).toNat&&t.sb (↑i:Int).toNat==u.sb (↑i:Int).toNat&&t.sp (↑i:Int).toNat==u.sp (↑i:Int).toNat))) (K Ex.ret {tmps:=[(2,SV.ptr 0 0),(3,SV.ptr 1 0),(4,SV.bool false),(6,SV.int .i64 (↑i:Int))],store:=[(0,some (SB.cells 34 (aU t))),(1,some (SB.cells 34 (aU u)))],nxt:=2,dirty:=[0,1],nt:=95}) (K Ex.normal {tmps:=[(2,SV.ptr 0 0),(3,SV.ptr 1 0),(4,SV.bool false),(6,SV.int .i64 (IntKind.i64.wrap ((↑i:Int)+1)))],store:=[(0,some (SB.cells 34 (aU t))),(1,some (SB.cells 34 (aU u)))],nxt:=2,dirty:=[0,1],nt:=95})) (False)) (False)) (K (Ex.exit 2) {tmps:=[(2,SV.ptr 0 0),(3,SV.ptr 1 0),(4,SV.bool false),(6,SV.int .i64 (↑i:Int))],store:=[(0,some (SB.cells 34 (aU t))),(1,some (SB.cells 34 (aU u)))],nxt:=2,dirty:=[0,1],nt:=95})):=by kernel_rfl
theorem aFS(t u:Trk)(i:Nat)(K:KC):aE saE (aB saR 0) saF aBy 0 K (.exit 0) (gvS 95 t u 5 i)=
 (∃q_,bS saE (aB saR 0) saF aBL 2 0 K q_ {tmps:=[(2,SV.ptr 0 0),(3,SV.ptr 1 0),(4,SV.bool false),(6,SV.int .i64 0)],store:=[(0,some (SB.cells 34 (aU t))),(1,some (SB.cells 34 (aU u)))],nxt:=2,dirty:=[0,1],nt:=95}):=by kernel_rfl
theorem aGg(t u:Trk)(i:Nat)(K:KC):aE saE (aB saR 0) saF aBL 0 K (.exit 2) (gvS 95 t u 6 i)=
 (K (SV.bool true) [] []):=by kernel_rfl
theorem aAE{i n m:Nat}(hi:i<n)(hm:n=m){N X:Prop}(h:N):
  Br (decide ((i:Int)<(n:Int))) (Br (decide (0<=(i:Int))&&decide ((i:Int)<(n:Int))) (Br (decide (0<=(i:Int))&&decide ((i:Int)<(m:Int))) N False) False) X:=by
 subst hm
 exact Br.of (fun _=>Br.of (fun _=>Br.of (fun _=>h) fun c=>oO hi c) fun c=>oO hi c) fun c=>nZ hi c
theorem aFH{t u:Trk}(h:rD t u)(n1:t.nr<9223372036854775808)(n2:t.nt<9223372036854775808)(K:KC)(hK:K (.bool true) [] []):eL saR (fun _=>0) oa 2 13 [.agg (aU t),.agg (aU u)] [] K:=by
 have h0:=h
 obtain ⟨_,_,_,_,⟨c1,c2⟩,⟨d1,d2⟩,⟨e1,e2⟩,f1,f2,f3,f4⟩:=h
 rw [W8,V6 d1,V6 e1,show (!(t.sx==u.sx&&t.sy==u.sy))=false from ZS (by simp [f1,f2]),IM f3,IM f4]
 refine ⟨gJ t,gJ u,h0,fun _=>rfl,fun _=>rfl,⟨c1,c2⟩, ?_⟩
 refine ⟨t.nr+1,jC (fun i:Nat=>gvS 95 t u 5 i) t.nr (fun _=>True) (fun i hi _ X hX=> ?_) (fun _ X=> ?_) trivial⟩
 ·rw [aDB,aQ hi n1]
  exact aAE hi d1 ⟨fun _=>rfl,fun _=>rfl,d2 i hi,hX trivial⟩
 rw [aDB]
 refine Br.of (fun c=>mZ c) fun _=> ?_
 show aE saE (aB saR 0) saF aBy 0 K (.exit 0) (gvS 95 t u 5 t.nr)
 rw [aFS]
 refine ⟨t.nt+1,jC (fun i:Nat=>gvS 95 t u 6 i) t.nt (fun _=>True) (fun i hi _ X hX=> ?_) (fun _ X=> ?_) trivial⟩
 ·rw [aDg,aQ hi n2]
  obtain ⟨g1,g2,g3,g4,g5⟩:=e2 i hi
  exact wC hi e1 (ZS (by simp [g1,g2,g3,g4,g5])) (hX trivial)
 rw [aDg]
 refine Br.of (fun c=>mZ c) fun _=> ?_
 show aE saE (aB saR 0) saF aBL 0 K (.exit 2) (gvS 95 t u 6 t.nt)
 rw [aGg];exact hK
theorem KP{t u:Trk}(h:rD t u):aD Tryz.prog 13 [.agg (aU t),.agg (aU u)] [] (.bool true) [] []:=
 iF saR (fun _=>0) oa 2 (fun p hp=>by cases hp) fun h5 _ K hK=>aFH h (A2 h5.1).2.2.2.2.1 (A2 h5.1).2.2.2.2.2 K (hK _ fun _ h=>h)
theorem ET(xs:List SV)(σ:List (Option SB)):Sat Tryz.prog 13 xs σ (uU xs σ):=
 CI (fun _ _ h=>KP h) xs σ
noncomputable def ob :bU Tryz.prog:=(oa).add 13 uU ET
end Go.Proofs.YtghnfjfkjhbgdaaGreatDoor
namespace Go.Se
abbrev Ln :=List Int×List (List Int)
def oB :List Ln->List Int
 | []=>[]
 |l::r=>lnW l.1 l.2++oB r
def qOf :Int->List Ln->List (Int×List (List Int))
 |_,[]=>[]
 |k,l::r=>(k+1,l.1::l.2)::qOf (k+1) r
def GX(l:Ln):Prop:=(l.1≠[]/\cO l.1)/\ ∀x,x∈l.2->x≠[]/\cO x
theorem aDm : ∀(ls:List Ln) (k:Int),(∀l,l∈ls->GX l)->nbF k (lnR [] (oB ls))=qOf k ls
 | [],_,_=>rfl
 |l::r,k,h=>by
  obtain ⟨⟨h1,h2⟩,h3⟩:=h l (List.mem_cons_self ..)
  show nbF k (lnR [] ((l.1++iB l.2++[10])++oB r))=_
  rw [List.append_assoc _ [10]]
  show nbF k (lnR [] (l.1++iB l.2++10::oB r))=_
  rw [aB2 h1 h2 h3,aDm r (k+1) fun x hx=>h x (List.mem_cons_of_mem _ hx)];rfl
theorem IT : ∀a b:List Ln,oB (a++b)=oB a++oB b
 | [],_=>rfl
 |l::a,b=>by show lnW l.1 l.2++oB (a++b)=(lnW l.1 l.2++oB a)++oB b;rw [IT a b,List.append_assoc]
def AtQ(ls:List Ln)(b:Bk):Prop:=(∃k,b.q=qOf k ls)/\b.err=0/\b.place=0
theorem aC2{ls:List Ln}(h: ∀l,l∈ls->GX l):AtQ ls (eE (oB ls)):=⟨⟨0,aDm ls 0 h⟩,rfl,rfl⟩
theorem QL(a:ByteArray):(a==a)=true:=by rw [show (a==a)=(a.data==a.data) from rfl,beq_self_eq_true]
theorem aCF{w:List Int}{r:List (List Int)}{ls:List Ln}{b:Bk}(h:AtQ ((w,r)::ls) b):eY b (ba w)=true:=by
 obtain ⟨⟨k,hq⟩,he,_⟩:=h
 unfold eY cT
 rw [hq,he]
 show (true&&(true&&(bytesOf w==ba w)))=true
 rw [QL];rfl
theorem JR{w v:List Int}{r:List (List Int)}{ls:List Ln}{b:Bk}(h:AtQ ((w,r)::ls) b)(hv:(ba w==ba v)=false):eY b (ba v)=false:=by
 obtain ⟨⟨k,hq⟩,he,_⟩:=h
 unfold eY cT
 rw [hq,he]
 show (true&&(true&&(bytesOf w==ba v)))=false
 rw [hv];rfl
theorem R1{w:List Int}{r:List (List Int)}{ls:List Ln}{b:Bk}(h:AtQ ((w,r)::ls) b){lo hi:Int}(h1:lo<=r.length)(h2:(r.length:Int)<=hi)(all:Int):
  fN b (ba w) lo hi=false/\gW b=r/\AtQ ls (gB all b (ba w) lo hi):=by
 obtain ⟨⟨k,hq⟩,he,hp⟩:=h
 have hh:cT b.q=(k+1,w::r):=by unfold cT;rw [hq];rfl
 have hE:lH b (ba w) lo hi=0:=by
  unfold lH
  rw [hh,show b.q.isEmpty=false by rw [hq];rfl]
  show (bif !(bytesOf w==ba w) then (21:Int) else bif decide ((((w::r).length:Int) - 1)<lo)||decide ((((w::r).length:Int) - 1)>hi) then 22 else 0)=0
  rw [QL,List.length_cons,decide_eq_false (show¬(((r.length+1:Nat):Int) - 1<lo) by omega),decide_eq_false (show¬(((r.length+1:Nat):Int) - 1>hi) by omega)];rfl
 refine ⟨?_, ?_, ?_⟩
 ·unfold fN;rw [he,hE];rfl
 ·unfold gW;rw [hh];rfl
 ·unfold gB
  rw [he,hE]
  exact ⟨⟨k+1,by show b.q.tail=_;rw [hq];rfl⟩,rfl,hp⟩
theorem uK{w:List Int}{r:List (List Int)}{ls:List Ln}{b:Bk}(h:AtQ ((w,r)::ls) b){n:Nat}(hn:r.length=n)(all:Int):lnV b (ba w) n=r/\AtQ ls (lnB all b (ba w) n):=by
 obtain ⟨h1,h2,h3⟩:=R1 h (lo:=n) (hi:=n) (by omega) (by omega) all
 exact ⟨by unfold lnV;rw [h1,h2];rfl,h3⟩
theorem sD{ls:List Ln}{b:Bk}(h:AtQ ls b){n:Int}(hn:bE n):tY b (rl (aC n))=n/\jZ b (rl (aC n))=b:=by
 have e:rl (aC n)=aC n:=cH (kK n)
 obtain ⟨h1,h2⟩:=YN (b:=b) h.2.1 hn.1 hn.2
 rw [e];exact ⟨h2,h1⟩
theorem DM{ls:List Ln}{b:Bk}(h:AtQ ls b){n lo hi:Int}(h0: -999999999999999999<=n)(h1:n<=999999999999999999)(hl:lo<=n)(hh:n<=hi):jT b (rl (aJ n)) lo hi=n/\iC b (rl (aJ n)) lo hi=b:=by
 obtain ⟨a,c⟩:=X0 (b:=b) h.2.1 h0 h1 hl hh
 exact ⟨c,a⟩
theorem aF2{ls:List Ln}{b:Bk}(h:AtQ ls b)(z:Bool):(oJ b (ba (onW z)) [ba wOn,ba IA]==1)=z/\jS b (ba (onW z)) [ba wOn,ba IA]=b:=by
 have he:(b.err==0)=true:=by rw [h.2.1];rfl
 cases z with
 |false=>obtain ⟨a,c⟩:=j0 (s:=ba wOn) (ws:=[ba wOn,ba IA]) (j:=0) he (by decide+kernel) (by decide);exact ⟨by show (oJ b (ba wOn) _==1)=_;rw [a];rfl,c⟩
 |true=>obtain ⟨a,c⟩:=j0 (s:=ba IA) (ws:=[ba wOn,ba IA]) (j:=1) he (by decide+kernel) (by decide);exact ⟨by show (oJ b (ba IA) _==1)=_;rw [a];rfl,c⟩
theorem aGy{ls:List Ln}{b:Bk}(h:AtQ ls b)(z:Bool):(oJ b (ba (hC z)) [ba qQ,ba qF]==1)=z/\jS b (ba (hC z)) [ba qQ,ba qF]=b:=by
 have he:(b.err==0)=true:=by rw [h.2.1];rfl
 cases z with
 |false=>obtain ⟨a,c⟩:=j0 (s:=ba qQ) (ws:=[ba qQ,ba qF]) (j:=0) he (by decide+kernel) (by decide);exact ⟨by show (oJ b (ba qQ) _==1)=_;rw [a];rfl,c⟩
 |true=>obtain ⟨a,c⟩:=j0 (s:=ba qF) (ws:=[ba qQ,ba qF]) (j:=1) he (by decide+kernel) (by decide);exact ⟨by show (oJ b (ba qF) _==1)=_;rw [a];rfl,c⟩
theorem FB{ls:List Ln}{b:Bk}(h:AtQ ls b): ∀(L acc:List Int),(∀x,x∈L->bE x)->(L.map aC).foldl qY (acc,b)=(acc++L,b)
 | [],acc,_=>by rw [List.append_nil];rfl
 |x::L,acc,hL=>by
  obtain ⟨a,c⟩:=sD h (hL x (List.mem_cons_self ..))
  show (L.map aC).foldl qY (acc++[tY b (rl (aC x))],jZ b (rl (aC x)))=_
  rw [a,c,FB h L _ fun y hy=>hL y (List.mem_cons_of_mem _ hy),List.append_assoc];rfl
theorem GC{ls:List Ln}{b:Bk}(h:AtQ ls b){lo hi:Int}(h0: -999999999999999999<=lo)(h1:hi<=999999999999999999): ∀(L acc:List Int),(∀x,x∈L->lo<=x/\x<=hi)->(L.map aJ).foldl (mF lo hi) (acc,b)=(acc++L,b)
 | [],acc,_=>by rw [List.append_nil];rfl
 |x::L,acc,hL=>by
  obtain ⟨x1,x2⟩:=hL x (List.mem_cons_self ..)
  obtain ⟨a,c⟩:=DM h (n:=x) (lo:=lo) (hi:=hi) (by omega) (by omega) x1 x2
  show (L.map aJ).foldl (mF lo hi) (acc++[jT b (rl (aJ x)) lo hi],iC b (rl (aJ x)) lo hi)=_
  rw [a,c,GC h h0 h1 L _ fun y hy=>hL y (List.mem_cons_of_mem _ hy),List.append_assoc];rfl
theorem sN{α:Type}(f:Nat->α)(n:Nat):lst f (n+1)=lst f n++[f n]:=by unfold lst;rw [List.range_succ,List.map_append];rfl
theorem xS{α:Type}{f:Bk->List α×Bk}{line:Nat->Ln}{val:Nat->List α}: ∀(n:Nat) (ls:List Ln) (b:Bk),(∀i,i<n-> ∀ls b,AtQ (line i::ls) b->(f b).1=val i/\AtQ ls (f b).2)->AtQ (lst line n++ls) b->
  (dS f n b).1=(lst val n).flatten/\AtQ ls (dS f n b).2
 |0,_,_,_,h=>⟨rfl,h⟩
 |n+1,ls,b,hs,h=>by
  rw [sN,List.append_assoc] at h
  obtain ⟨h1,h2⟩:=xS n (line n::ls) b (fun i hi=>hs i (by omega)) h
  obtain ⟨h3,h4⟩:=hs n (Nat.lt_succ_self n) ls _ h2
  refine ⟨?_,h4⟩
  show (dS f n b).1++(f (dS f n b).2).1=_
  rw [h1,h3,sN,List.flatten_append];simp
theorem pC{α:Type}{w:List Int}{one:Bk->α×Bk}{piece:α->List (List Int)}{ls:List Ln}: ∀(xs:List α) (n:Nat) (acc:List α) (b:Bk),xs.length<=n->(xs.length<n-> ∀b',AtQ ls b'->eY b' (ba w)=false)->
  (∀x,x∈xs-> ∀ls b,AtQ ((w,piece x)::ls) b->(one b).1=x/\AtQ ls (one b).2)->AtQ (xs.map (fun x=>(w,piece x))++ls) b->(cJ (ba w) one n (acc,b)).1=acc++xs/\AtQ ls (cJ (ba w) one n (acc,b)).2
 | [],0,acc,b,_,_,_,h=>⟨by rw [List.append_nil];rfl,h⟩
 | [],n+1,acc,b,_,hn,_,h=>by
  have:=hn (Nat.succ_pos n) b h
  unfold cJ
  rw [this]
  exact ⟨by rw [List.append_nil];rfl,h⟩
 |x::xs,0,_,_,h,_,_,_=>absurd h (by simp)
 |x::xs,n+1,acc,b,hl,hn,hs,h=>by
  have h:AtQ ((w,piece x)::(xs.map (fun x=>(w,piece x))++ls)) b:=h
  obtain ⟨h1,h2⟩:=hs x (List.mem_cons_self ..) _ b h
  unfold cJ
  rw [aCF h]
  simp only [cond_true]
  rw [h1]
  have:=pC xs n (acc++[x]) (one b).2 (by simpa using hl) (fun hlt=>hn (by simpa using hlt)) (fun y hy=>hs y (List.mem_cons_of_mem _ hy)) h2
  rw [List.append_assoc] at this
  exact this
theorem E2(x y:Nat->Int): ∀(m a i:Nat),i<m->(dD x y a m).getD (2*i) []=aC (x (a+i))/\(dD x y a m).getD (2*i+1) []=aC (y (a+i))
 |0,_,_,h=>absurd h (Nat.not_lt_zero _)
 |m+1,a,0,_=>⟨rfl,rfl⟩
 |m+1,a,i+1,h=>by
  have:=E2 x y m (a+1) i (by omega)
  rw [show a+1+i=a+(i+1) by omega] at this
  exact this
theorem JM{ls:List Ln}{b:Bk}(h:AtQ ls b){x y:Nat->Int}{m:Nat}(hx: ∀i,i<m->bE (x i)/\bE (y i)): ∀n,n<=m->mY b (dD x y 0 m) n=(lst (fun k=>(x k,y k)) n,b)
 |0,_=>rfl
 |n+1,hn=>by
  have e:=JM h hx n (by omega)
  obtain ⟨p1,p2⟩:=E2 x y m 0 n (by omega)
  rw [Nat.zero_add] at p1 p2
  obtain ⟨a1,a2⟩:=sD h (hx n (by omega)).1
  obtain ⟨c1,c2⟩:=sD h (hx n (by omega)).2
  unfold mY
  rw [e,sN]
  simp only
  unfold plP
  rw [p1,p2,a1,a2,c1,c2]
end Go.Se
namespace Go.Se
theorem GR{w:List Int}{n lo hi:Int}{ls:List Ln}{b:Bk}(h:AtQ ((w,[aJ n])::ls) b)(h0: -999999999999999999<=n)(h1:n<=999999999999999999)(hl:lo<=n)(hh:n<=hi)(all:Int):
  (EG all (ba w) lo hi b).1=n/\AtQ ls (EG all (ba w) lo hi b).2:=by
 obtain ⟨e,h⟩:=uK h (n:=1) rfl all
 obtain ⟨a,c⟩:=DM h h0 h1 hl hh
 unfold EG
 rw [e]
 exact ⟨a,by show AtQ ls (iC _ (rl (aJ n)) lo hi);rw [c];exact h⟩
theorem VC{w:List Int}{n:Int}{ls:List Ln}{b:Bk}(h:AtQ ((w,[aC n])::ls) b)(hn:bE n)(all:Int):(K5 all (ba w) b).1=n/\AtQ ls (K5 all (ba w) b).2:=by
 obtain ⟨e,h⟩:=uK h (n:=1) rfl all
 obtain ⟨a,c⟩:=sD h hn
 unfold K5
 rw [e]
 exact ⟨a,by show AtQ ls (jZ _ (rl (aC n)));rw [c];exact h⟩
theorem U9{m n:Int}{ls:List Ln}{b:Bk}(h:AtQ ((nX,[aJ m,aJ n])::ls) b)(hm:1<=m/\m<=64)(hn:1<=n/\n<=64)(all:Int):(u5 all b).1=(m,n)/\AtQ ls (u5 all b).2:=by
 obtain ⟨e,h⟩:=uK h (n:=2) rfl all
 obtain ⟨a,c⟩:=DM h (n:=m) (lo:=1) (hi:=64) (by omega) (by omega) hm.1 hm.2
 obtain ⟨a2,c2⟩:=DM h (n:=n) (lo:=1) (hi:=64) (by omega) (by omega) hn.1 hn.2
 unfold u5
 rw [e]
 simp only [show ([aJ m,aJ n]:List (List Int)).getD 0 []=aJ m from rfl,show ([aJ m,aJ n]:List (List Int)).getD 1 []=aJ n from rfl,a,c,a2,c2]
 exact ⟨trivial,h⟩
theorem rK{ls:List Ln}{b:Bk}(h:AtQ ls b){x y:Int}(hx:bE x/\bE y){p:List (List Int)}{i:Nat}(h0:p.getD i []=aC x)(h1:p.getD (i+1) []=aC y):plP b p i=((x,y),b):=by
 obtain ⟨a,c⟩:=sD h hx.1
 obtain ⟨a2,c2⟩:=sD h hx.2
 unfold plP
 rw [h0,h1,a,c,a2,c2]
theorem GW{x y:Int}{ls:List Ln}{b:Bk}(h:AtQ ((kC,[aC x,aC y])::ls) b)(hx:bE x/\bE y)(all:Int):(nK all b).1=(x,y)/\AtQ ls (nK all b).2:=by
 obtain ⟨e,h⟩:=uK h (n:=2) rfl all
 unfold nK
 rw [e,rK h hx rfl rfl]
 exact ⟨rfl,h⟩
theorem JT{x y n:Int}{ls:List Ln}{b:Bk}(h:AtQ ((g8,[aC x,aC y,aJ n])::ls) b)(hx:bE x/\bE y)(hn:0<=n/\n<=4294967295)(all:Int):(vG all b).1=((x,y),n)/\AtQ ls (vG all b).2:=by
 obtain ⟨e,h⟩:=uK h (n:=3) rfl all
 obtain ⟨a,c⟩:=DM h (n:=n) (lo:=0) (hi:=4294967295) (by omega) (by omega) hn.1 hn.2
 unfold vG
 rw [e]
 simp only
 rw [rK h hx (p:=[aC x,aC y,aJ n]) (i:=0) rfl rfl]
 simp only [show ([aC x,aC y,aJ n]:List (List Int)).getD 2 []=aJ n from rfl,a,c]
 exact ⟨trivial,h⟩
def kLn(x:Int×Int×Bool):List (List Int):=[aC x.1,aC x.2.1,onW x.2.2]
def pLn(x:Int×Int):List (List Int):=[aC x.1,aC x.2]
def rLn(l:List (Int×Int)):List (List Int):=dD (fun k=>(l.getD k (0,0)).1) (fun k=>(l.getD k (0,0)).2) 0 l.length
def gLn(x:Int×Int×Int×Int×Bool):List (List Int):=[aC x.1,aC x.2.1,aC x.2.2.1,aC x.2.2.2.1,hC x.2.2.2.2]
theorem P3{x:Int×Int×Bool}{ls:List Ln}{b:Bk}(h:AtQ ((iO,kLn x)::ls) b)(hx:bE x.1/\bE x.2.1)(all:Int):(gQ all b).1=x/\AtQ ls (gQ all b).2:=by
 obtain ⟨e,h⟩:=uK h (n:=3) rfl all
 obtain ⟨a,c⟩:=sD h hx.1
 obtain ⟨a2,c2⟩:=sD h hx.2
 obtain ⟨a3,c3⟩:=aF2 h x.2.2
 unfold gQ
 rw [e]
 simp only [show (kLn x).getD 0 []=aC x.1 from rfl,show (kLn x).getD 1 []=aC x.2.1 from rfl,show (kLn x).getD 2 []=onW x.2.2 from rfl,a,c,a2,c2,a3,c3]
 exact ⟨trivial,h⟩
theorem I6{x:Int×Int}{ls:List Ln}{b:Bk}(h:AtQ ((eZ,pLn x)::ls) b)(hx:bE x.1/\bE x.2)(all:Int):(eQ all b).1=x/\AtQ ls (eQ all b).2:=by
 obtain ⟨e,h⟩:=uK h (n:=2) rfl all
 unfold eQ
 rw [e,rK h hx rfl rfl]
 exact ⟨rfl,h⟩
theorem P9{x:Int×Int×Int×Int×Bool}{ls:List Ln}{b:Bk}(h:AtQ ((gD,gLn x)::ls) b)(hx:bE x.1/\bE x.2.1/\bE x.2.2.1/\bE x.2.2.2.1)(all:Int):(iT all b).1=x/\AtQ ls (iT all b).2:=by
 obtain ⟨e,h⟩:=uK h (n:=5) rfl all
 obtain ⟨h1,h2,h3,h4⟩:=hx
 obtain ⟨a3,c3⟩:=aGy h x.2.2.2.2
 unfold iT
 rw [e]
 simp only
 rw [rK h ⟨h1,h2⟩ (p:=gLn x) (i:=0) rfl rfl]
 simp only
 rw [rK h ⟨h3,h4⟩ (p:=gLn x) (i:=2) rfl rfl]
 simp only [show (gLn x).getD 4 []=hC x.2.2.2.2 from rfl,a3,c3]
 exact ⟨trivial,h⟩
theorem NK{l:List (Int×Int)}{ls:List Ln}{b:Bk}(h:AtQ ((dU,rLn l)::ls) b)(h2:2<=(l.length:Int)/\(l.length:Int)<=64)(hx: ∀c,c∈l->bE c.1/\bE c.2)(all:Int):(eD all b).1=l/\AtQ ls (eD all b).2:=by
 have hl:(rLn l).length=2*l.length:=fM _ _ _ _
 obtain ⟨e1,e2,h⟩:=R1 h (lo:=2) (hi:=128) (by omega) (by omega) all
 have hp:=JM h (x:=fun k=>(l.getD k (0,0)).1) (y:=fun k=>(l.getD k (0,0)).2) (m:=l.length) (fun i hi=>hx _ (kH hi)) l.length (Nat.le_refl _)
 unfold eD
 rw [e1,e2]
 simp only [cond_false,hl]
 rw [show (2*l.length%2==1)=false by rw [Nat.mul_mod_right];rfl,show 2*l.length/2=l.length by omega]
 show (mY _ (rLn l) l.length).1=l/\AtQ ls (mY _ (rLn l) l.length).2
 rw [show mY (gB all b (ba dU) 2 128) (rLn l) l.length=_ from hp]
 exact ⟨mU l (0,0),h⟩
theorem XY{f:Nat->Int}{m i:Nat}{ls:List Ln}{b:Bk}(h:AtQ ((gM,fV f (i*m) m)::ls) b)(hx: ∀j,bE (f j))(all:Int):(kU all m b).1=(List.range' (i*m) m).map f/\AtQ ls (kU all m b).2:=by
 obtain ⟨e,h⟩:=uK h (n:=m) (kW _ _ _) all
 unfold kU iE
 rw [e,show fV f (i*m) m=((List.range' (i*m) m).map f).map aC by unfold fV;rw [List.map_map];rfl,FB h _ [] fun x hx'=>by
  obtain ⟨j,_,rfl⟩:=List.mem_map.1 hx'
  exact hx j]
 exact ⟨rfl,h⟩
theorem W3{f:Nat->Int}{m i:Nat}{ls:List Ln}{b:Bk}(h:AtQ ((iS,fT f (i*m) m)::ls) b)(hx: ∀j,0<=f j/\f j<=7)(all:Int):(pG all m b).1=(List.range' (i*m) m).map f/\AtQ ls (pG all m b).2:=by
 obtain ⟨e,h⟩:=uK h (n:=m) (kQ _ _ _) all
 unfold pG
 rw [e,show fT f (i*m) m=((List.range' (i*m) m).map f).map aJ by unfold fT;rw [List.map_map];rfl,GC h (by decide) (by decide) _ [] fun x hx'=>by
  obtain ⟨j,_,rfl⟩:=List.mem_map.1 hx'
  exact hx j]
 exact ⟨rfl,h⟩
theorem QA(f:Nat->Int)(m:Nat): ∀r,(lst (fun i=>(List.range' (i*m) m).map f) r).flatten=lst f (r*m)
 |0=>by rw [Nat.zero_mul];rfl
 |r+1=>by
  rw [sN,List.flatten_append,QA f m r,Nat.add_mul,Nat.one_mul]
  unfold lst
  rw [List.range_eq_range',List.range_eq_range',List.flatten_singleton,<- List.map_append]
  congr 1
  have:=List.range'_append (s:=0) (m:=r*m) (n:=m) (step:=1)
  simpa using this
theorem jF(g:Nat->Ln): ∀n,bL (fun i=>lnW (g i).1 (g i).2) 0 n=oB (lst g n)
 |0=>rfl
 |n+1=>by rw [jQ,jF g n,sN,IT,Nat.zero_add];show _=_++(lnW (g n).1 (g n).2++[]);rw [List.append_nil]
theorem AB{α:Type}(F:α->Ln)(xs:List α)(d:α):lst (fun i=>F (xs.getD i d)) xs.length=xs.map F:=by
 have:=congrArg (List.map F) (mU xs d)
 unfold lst at this|-
 rw [List.map_map] at this
 exact this
def hLn(t:TL)(i:Nat):Ln:=(gM,fV t.trk.h (i*(t.cols+1).toNat) (t.cols+1).toNat)
def oLn(t:TL)(i:Nat):Ln:=(iS,fT t.trk.g (i*t.cols.toNat) t.cols.toNat)
def AZ(t:TL):List Ln:=[(g8,[aC t.start.1,aC t.start.2,aJ t.head]),(oZ,[aJ t.laps])]
def DE(t:TL):List Ln:=t.line.map (fun x=>(eZ,pLn x))++(t.rails.map (fun x=>(dU,rLn x))++(t.gates.map (fun x=>(gD,gLn x))++AZ t))
def pU(t:TL):List Ln:=(rO,[aJ t.rate])::(s5,[aC t.cell])::(nX,[aJ t.cols,aJ t.rows])::(kC,[aC t.corner.1,aC t.corner.2])::
 (lst (hLn t) (t.rows+1).toNat++(lst (oLn t) t.rows.toNat++(t.kinds.map (fun x=>(iO,kLn x))++DE t)))
theorem DD(t:TL):vX t.trk=oB (pU t):=by
 have e1:bL (fun r=>lnW gM (fV t.trk.h (r*(t.cols+1).toNat) (t.cols+1).toNat)) 0 (t.rows+1).toNat=oB (lst (hLn t) (t.rows+1).toNat):=jF (hLn t) _
 have e2:bL (fun r=>lnW iS (fT t.trk.g (r*t.cols.toNat) t.cols.toNat)) 0 t.rows.toNat=oB (lst (oLn t) t.rows.toNat):=jF (oLn t) _
 have e3:bL (fun i=>lnW iO [aC (t.trk.kg i),aC (t.trk.kd i),onW (t.trk.ko i)]) 0 t.kinds.length=oB (t.kinds.map fun x=>(iO,kLn x)):=by
  rw [<- AB (fun x=>(iO,kLn x)) t.kinds (0,0,false)];exact jF (fun i=>(iO,kLn (t.kinds.getD i (0,0,false)))) _
 have e4:bL (fun i=>lnW eZ [aC (t.trk.lx i),aC (t.trk.ly i)]) 0 t.line.length=oB (t.line.map fun x=>(eZ,pLn x)):=by
  rw [<- AB (fun x=>(eZ,pLn x)) t.line (0,0)];exact jF (fun i=>(eZ,pLn (t.line.getD i (0,0)))) _
 have e5:bL (fun i=>lnW dU (dD (t.trk.rx i) (t.trk.ry i) 0 (t.trk.rn i))) 0 t.rails.length=oB (t.rails.map fun x=>(dU,rLn x)):=by
  rw [<- AB (fun x=>(dU,rLn x)) t.rails []];exact jF (fun i=>(dU,rLn (t.rails.getD i []))) _
 have e6:bL (fun i=>lnW gD [aC (t.trk.ax i),aC (t.trk.ay i),aC (t.trk.bx i),aC (t.trk.sb i),hC (t.trk.sp i)]) 0 t.gates.length=oB (t.gates.map fun x=>(gD,gLn x)):=by
  rw [<- AB (fun x=>(gD,gLn x)) t.gates (0,0,0,0,false)];exact jF (fun i=>(gD,gLn (t.gates.getD i (0,0,0,0,false)))) _
 show (lnW rO [aJ t.rate]++lnW s5 [aC t.cell]++lnW nX [aJ t.cols,aJ t.rows]++lnW kC [aC t.corner.1,aC t.corner.2]++
  bL (fun r=>lnW gM (fV t.trk.h (r*(t.cols+1).toNat) (t.cols+1).toNat)) 0 (t.rows+1).toNat++
  bL (fun r=>lnW iS (fT t.trk.g (r*t.cols.toNat) t.cols.toNat)) 0 t.rows.toNat++
  bL (fun i=>lnW iO [aC (t.trk.kg i),aC (t.trk.kd i),onW (t.trk.ko i)]) 0 t.kinds.length)++
  (bL (fun i=>lnW eZ [aC (t.trk.lx i),aC (t.trk.ly i)]) 0 t.line.length++
  bL (fun i=>lnW dU (dD (t.trk.rx i) (t.trk.ry i) 0 (t.trk.rn i))) 0 t.rails.length++
  bL (fun i=>lnW gD [aC (t.trk.ax i),aC (t.trk.ay i),aC (t.trk.bx i),aC (t.trk.sb i),hC (t.trk.sp i)]) 0 t.gates.length++
  lnW g8 [aC t.start.1,aC t.start.2,aJ t.head]++lnW oZ [aJ t.laps])=_
 rw [e1,e2,e3,e4,e5,e6]
 unfold pU DE AZ
 simp only [oB,IT,List.append_assoc,List.append_nil]
end Go.Se
