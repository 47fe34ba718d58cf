import Derived.Test.YtghnfjfkjhbgdaaGreatDoorZD
namespace Go.Proofs.YtghnfjfkjhbgdaaGreatDoor
open Go.Se Go.Shelf
set_option maxRecDepth 100000
def jR :Ren:=⟨fun
 |156=>61
 |165=>106
 |166=>60
 |169=>21
 |240=>105
 |241=>154
 |276=>153
 |277=>199
 |n=>n,fun
 |0=>0
 |3=>3
 |4=>4
 |5=>5
 |9=>9
 |20=>20
 |31=>54
 |37=>47
 |70=>46
 |72=>49
 |75=>94
 |76=>108
 |80=>60
 |127=>115
 |164=>144
 |n=>n,fun n=>n⟩
theorem jL :Go.Proofs.Lays.n156 Tryz.prog jR where
 mixed:=by kernel_rfl
 f156:=by kernel_rfl
 f165:=by kernel_rfl
 f166:=by kernel_rfl
 f169:=by kernel_rfl
 f240:=by kernel_rfl
 f241:=by kernel_rfl
 f276:=by kernel_rfl
 f277:=by kernel_rfl
 t0:=by kernel_rfl
 a0:=fun _=>by kernel_rfl
 z0:=fun _=>by kernel_rfl
 v0:=fun _=>by kernel_rfl
 t3:=by kernel_rfl
 a3:=fun _=>by kernel_rfl
 z3:=fun _=>by kernel_rfl
 v3:=fun _=>by kernel_rfl
 t4:=by kernel_rfl
 a4:=fun _=>by kernel_rfl
 z4:=fun _=>by kernel_rfl
 v4:=fun _=>by kernel_rfl
 t9:=by kernel_rfl
 a9:=fun _=>by kernel_rfl
 z9:=fun _=>by kernel_rfl
 v9:=fun _=>by kernel_rfl
 t20:=by kernel_rfl
 a20:=fun _=>by kernel_rfl
 z20:=fun _=>by kernel_rfl
 v20:=fun _=>by kernel_rfl
 t31:=by kernel_rfl
 a31:=fun _=>by kernel_rfl
 z31:=fun _=>by kernel_rfl
 v31:=fun _=>by kernel_rfl
 t37:=by kernel_rfl
 a37:=fun _=>by kernel_rfl
 z37:=fun _=>by kernel_rfl
 v37:=fun _=>by kernel_rfl
 t70:=by kernel_rfl
 a70:=fun _=>by kernel_rfl
 z70:=fun _=>by kernel_rfl
 v70:=fun _=>by kernel_rfl
 t72:=by kernel_rfl
 a72:=fun _=>by kernel_rfl
 z72:=fun _=>by kernel_rfl
 v72:=fun _=>by kernel_rfl
 t75:=by kernel_rfl
 a75:=fun _=>by kernel_rfl
 z75:=fun _=>by kernel_rfl
 v75:=fun _=>by kernel_rfl
 t76:=by kernel_rfl
 a76:=fun _=>by kernel_rfl
 z76:=fun _=>by kernel_rfl
 v76:=fun _=>by kernel_rfl
 t127:=by kernel_rfl
 a127:=fun _=>by kernel_rfl
 z127:=fun _=>by kernel_rfl
 v127:=fun _=>by kernel_rfl
 t164:=by kernel_rfl
 a164:=fun _=>by kernel_rfl
 z164:=fun _=>by kernel_rfl
 v164:=fun _=>by kernel_rfl
theorem jX :Go.Proofs.Builder.Extra Tryz.prog jR where
 sizeBuilder:=by kernel_rfl
 liesBuilder:=by kernel_rfl
 t5:=by kernel_rfl
 a5:=fun _=>by kernel_rfl
 z5:=fun _=>by kernel_rfl
 v5:=fun _=>by kernel_rfl
 infoByte:=by kernel_rfl
 cellsByte:=by kernel_rfl
 sizeByte:=by kernel_rfl
 neB5:=by decide
def cJn :List SV->List (Option SB)->KC->Prop
 | [.ro n 1 g,.str s],[],K=> ∃p:List (List Int),((n=p.length/\g=aH p)/\s=⟨#[32]⟩/\(dF p).length<=1099511627776/\n<=1099511627776)/\K (.str (bytesOf (dF p))) [] []
 | [.own 0 0 1 n,.str s],[some (.row 9 1 n' g)],K=> ∃p:List (List Int),((n=p.length/\n'=n/\ ∀j (h:j<p.length),g j=jE p[j])/\s=⟨#[32]⟩/\(dF p).length<=1099511627776/\n<=1099511627776)/\K (.str (bytesOf (dF p))) [none] [0]
 | [.own 0 0 1 n,.str s],[some (.lst 9 cs)],K=> ∃p:List (List Int),((n=p.length/\cs=uF p)/\s=⟨#[32]⟩/\(dF p).length<=1099511627776/\n<=1099511627776)/\K (.str (bytesOf (dF p))) [none] [0]
 |_,_,_=>False
theorem aE1(xs:List SV)(σ:List (Option SB)):Sat Tryz.prog 61 xs σ (cJn xs σ):=by
 intro K hK
 unfold cJn at hK
 split at hK
 case h_4=>exact hK.elim
 ·obtain ⟨p,⟨⟨rfl,rfl⟩,rfl,h1,h2⟩,hK⟩:=hK
  exact ⟨_,_,_,hK,yV jL jX p h1 h2⟩
 ·obtain ⟨p,⟨⟨rfl,rfl,hg⟩,rfl,h1,h2⟩,hK⟩:=hK
  exact ⟨_,_,_,hK,rV jL jX p h1 h2 (Nat.le_refl _) hg⟩
 ·obtain ⟨p,⟨⟨rfl,rfl⟩,rfl,h1,h2⟩,hK⟩:=hK
  exact ⟨_,_,_,hK,B6 jL jX p h1 h2⟩
end Go.Proofs.YtghnfjfkjhbgdaaGreatDoor
namespace Go.Proofs.YtghnfjfkjhbgdaaGreatDoor
open Go.Se
set_option maxRecDepth 100000
theorem aFm(s:ByteArray)(h0:0<s.size)(h1:s.size<=1099511627776):aD Tryz.prog 60 [.ptr 0 0,.str s] [some (.cells sbT [.nilp,.nils])] (.tup [.int .i64 s.size,.nilI]) [some (.cells sbT [.ptr 0 0,.own 1 0 1 s.size]),some (.row 5 1 s.size (tG (aA s)))] [0]:=
 aV n1 3 fun _ _ K hK=>by
  rw [aD0,Q2]
  exact ⟨fun i _=>⟨rfl,rfl⟩,Br.of (fun _=>Br.of (fun _=>hK) fun f=>absurd h0 (of_decide_eq_false f)) fun f=>absurd f (by simp only [Bool.true_and,Bool.and_eq_false_iff,decide_eq_false_iff_not];omega)⟩
theorem aDX(s:ByteArray)(l:List Int)(h1:l.length+s.size<=1099511627776):aD Tryz.prog 60 [.ptr 0 0,.str s] [some (.cells sbT [.ptr 0 0,.own 1 0 1 l.length]),some (.row 5 1 l.length (tG l))] (.tup [.int .i64 s.size,.nilI])
  [some (.cells sbT [.ptr 0 0,.own 2 0 1 (l++aA s).length]),none,some (.row 5 1 (l++aA s).length (tG (l++aA s)))] [0,1]:=
 aV n1 3 fun _ _ K hK=>by
  rw [aFv,Q2,aCR]
  rw [List.length_append,bU] at hK
  exact ⟨fun i _=>⟨rfl,rfl⟩,Br.of (fun _=>hK) fun f=>absurd f (by simp;omega)⟩
def cWs :List SV->List (Option SB)->KC->Prop
 | [.ptr 0 0,.str s],[some (.cells 49 [.nilp,.nils])],K=>(0<s.size/\s.size<=1099511627776)/\K (.tup [.int .i64 s.size,.nilI]) [some (.cells 49 [.ptr 0 0,.own 1 0 1 s.size]),some (.row 5 1 s.size (tG (aA s)))] [0]
 | [.ptr 0 0,.str s],[some (.cells 49 [.ptr 0 0,.own 1 0 1 n]),some (.row 5 1 n' g)],K=> ∃l:List Int,((n=l.length/\n'=l.length/\g=tG l)/\l.length+s.size<=1099511627776)/\
   K (.tup [.int .i64 s.size,.nilI]) [some (.cells 49 [.ptr 0 0,.own 2 0 1 (l++aA s).length]),none,some (.row 5 1 (l++aA s).length (tG (l++aA s)))] [0,1]
 |_,_,_=>False
theorem aDM(xs:List SV)(σ:List (Option SB)):Sat Tryz.prog 60 xs σ (cWs xs σ):=by
 intro K hK
 unfold cWs at hK
 split at hK
 case h_3=>exact hK.elim
 ·obtain ⟨⟨h0,h1⟩,hK⟩:=hK;exact ⟨_,_,_,hK,aFm _ h0 h1⟩
 ·obtain ⟨l,⟨⟨rfl,rfl,rfl⟩,h1⟩,hK⟩:=hK;exact ⟨_,_,_,hK,aDX _ l h1⟩
noncomputable def n2 :bT Tryz.prog:=((n1).add 60 cWs aDM).add 61 cJn aE1
def muR :List (Nat×eR):=[(0,⟨[3,6,7,8],[0],[0,1,2,3,4],1,[(3,0)]⟩)]
noncomputable abbrev muE :Env:=fW muR (fun _=>0) n2 2
noncomputable abbrev muF :Func:=Tryz.f57
abbrev muP :List Nat:=[1,1,0,1,0]
def muS(n:Nat)(f:Nat->Int)(o:SV)(r:Option SB)(i:Int):St:=⟨[(3,o),(6,.ro n 1 (aP f)),(7,.int .i64 n),(8,.int .i64 i)],[(0,r)],1,[0,1,2,3,4],19⟩
theorem WT(n:Nat)(f:Nat->Int)(K:KC):eA muR (fun _=>0) n2 3 57 [.ro n 1 (aP f)] [] K=
 (∃q_,bO muE (aB muR 0) muF muP 0 0 K q_ {tmps:=[(3,SV.nils),(6,SV.ro n 1 (aP f)),(7,SV.int .i64 (↑n:Int)),(8,SV.int .i64 0)],store:=[(0,none)],nxt:=1,dirty:=[0,1,2,3,4],nt:=19}):=by kernel_rfl
theorem GE(n:Nat)(f:Nat->Int)(i:Nat)(K:Ex->St->Prop):aF muE (aB muR 0) muF muP 0 K (muS n f .nils none i)=
 (Br (decide ((↑i:Int)<(↑n:Int))) (Br (decide (0<=(↑i:Int))&&decide ((↑i:Int)<(↑n:Int))) (K Ex.normal {tmps:=[(3,SV.own 0 0 1 1),(6,SV.ro n 1 (aP f)),(7,SV.int .i64 (↑n:Int)),(8,SV.int .i64 (IntKind.i64.wrap ((↑i:Int)+1)))],store:=[(0,some (SB.row 9 1 1 fun (i_1:Nat)=>cut [SV.str (bytesOf (aC (f (↑i:Int).toNat)))] (i_1*1) 1))],nxt:=1,dirty:=[0,1,2,3,4],nt:=19}) (False)) (K (Ex.exit 0) {tmps:=[(3,SV.nils),(6,SV.ro n 1 (aP f)),(7,SV.int .i64 (↑n:Int)),(8,SV.int .i64 (↑i:Int))],store:=[(0,none)],nxt:=1,dirty:=[0,1,2,3,4],nt:=19})):=by kernel_rfl
theorem FN(n:Nat)(f:Nat->Int)(m:Nat)(g:Nat->List SV)(i:Nat)(K:Ex->St->Prop):aF muE (aB muR 0) muF muP 0 K (muS n f (.own 0 0 1 m) (some (.row 9 1 m g)) i)=
 (Br (decide ((↑i:Int)<(↑n:Int))) (Br (decide (0<=(↑i:Int))&&decide ((↑i:Int)<(↑n:Int))) (Br (decide ((m+1)*16<=1099511627776)&&decide (m+1<9223372036854775808)&&decide (m=m)) (K Ex.normal {tmps:=[(3,SV.own 0 0 1 (m+1)),(6,SV.ro n 1 (aP f)),(7,SV.int .i64 (↑n:Int)),(8,SV.int .i64 (IntKind.i64.wrap ((↑i:Int)+1)))],store:=[(0,some (SB.row 9 1 (m+1) (bI m [SV.str (bytesOf (aC (f (↑i:Int).toNat)))] g)))],nxt:=1,dirty:=[0,1,2,3,4],nt:=19}) (False)) (False)) (K (Ex.exit 0) {tmps:=[(3,SV.own 0 0 1 m),(6,SV.ro n 1 (aP f)),(7,SV.int .i64 (↑n:Int)),(8,SV.int .i64 (↑i:Int))],store:=[(0,some (SB.row 9 1 m g))],nxt:=1,dirty:=[0,1,2,3,4],nt:=19})):=by kernel_rfl
theorem U9(n:Nat)(f:Nat->Int)(i:Nat)(K:KC):aE muE (aB muR 0) muF muP 0 K (.exit 0) (muS n f .nils none i)=
 (K SV.nils [] []):=by kernel_rfl
theorem V2(n:Nat)(f:Nat->Int)(m:Nat)(g:Nat->List SV)(i:Nat)(K:KC):aE muE (aB muR 0) muF muP 0 K (.exit 0) (muS n f (.own 0 0 1 m) (some (.row 9 1 m g)) i)=
 (K (SV.own 0 0 1 m) [some (SB.row 9 1 m g)] []):=by kernel_rfl
theorem aFx(t:TypeId)(a:Int)(K:KC):n9 3 n2 3 57 [.arr 0 0 1 1] [some (.cells t [.int .i64 a])] K=
 (K (SV.own 1 0 1 1) [some (SB.cells t [SV.int .i64 a]),some (SB.lst 9 [SV.str (bytesOf (aC a))])] []):=by kernel_rfl
theorem aFn(t:TypeId)(a b:Int)(K:KC):n9 4 n2 3 57 [.arr 0 0 2 2] [some (.cells t [.int .i64 a,.int .i64 b])] K=
 (K (SV.own 1 0 1 2) [some (SB.cells t [SV.int .i64 a,SV.int .i64 b]),some (SB.lst 9 [SV.str (bytesOf (aC a)),SV.str (bytesOf (aC b))])] []):=by kernel_rfl
theorem aDJ(t:TypeId)(a:Int)(K:KC):n9 3 n2 3 20 [.arr 0 0 1 1] [some (.cells t [.int .i64 a])] K=
 (K (SV.own 1 0 1 1) [some (SB.cells t [SV.int .i64 a]),some (SB.lst 9 [SV.str (bytesOf (aJ a))])] []):=by kernel_rfl
theorem aDQ(t:TypeId)(a b:Int)(K:KC):n9 4 n2 3 20 [.arr 0 0 2 2] [some (.cells t [.int .i64 a,.int .i64 b])] K=
 (K (SV.own 1 0 1 2) [some (SB.cells t [SV.int .i64 a,SV.int .i64 b]),some (SB.lst 9 [SV.str (bytesOf (aJ a)),SV.str (bytesOf (aJ b))])] []):=by kernel_rfl
end Go.Proofs.YtghnfjfkjhbgdaaGreatDoor
namespace Go.Se
variable {P:Program}
theorem yA {k:FuncId} {xs:List SV} {σ:List (Option SB)} {v:SV} {σ1 σ2:List (Option SB)} {d:List Nat} (hl:σ1.length=σ2.length) (hn: ∀p:Nat,σ1[p]? =some none↔σ2[p]? =some none)
  (h: ∀(p:Nat) (sb:SB),σ2[p]? =some (some sb)-> ∃sb1,σ1[p]? =some (some sb1)/\ ∀(ρ:aG) (T:Nat->Prop) (w:World) (b:Nat),eF ρ T w sb1 b->eF ρ T w sb b)
  (hc:aD P k xs σ v σ1 d):aD P k xs σ v σ2 d:=by
 intro ρ T w vals h1 h2 h3 h4
 refine (hc ρ T w vals h1 h2 h3 h4).mono fun x w' ⟨ρ',T',hd⟩=>⟨ρ',T',{
  names:=hd.names
  only:=hl▸hd.only
  len:=hl▸hd.len
  val:=hd.val
  store:=fun p sb hp=>by
   obtain ⟨sb1,e1,e2⟩:=h p sb hp
   obtain ⟨b,e3,e4,e5⟩:=hd.store p sb1 e1
   exact ⟨b,e3,e4,e2 _ _ _ _ e5⟩
  fresh:=fun p b hp hb=>by
   rcases hd.fresh p b hp hb with h|⟨q,h5,h6,h7⟩
   ·exact .inl h
   ·exact .inr ⟨q,h5,(hn q).1 h6,h7⟩
  inj:=hd.inj
  dirty:=hd.dirty
  grow:=hd.grow
  tback:=hd.tback
  below:=hd.below
  tkeep:=fun b hb hT=>by
   rcases hd.tkeep b hb hT with h|⟨q,h5,h6,h7⟩
   ·exact .inl h
   ·exact .inr ⟨q,h5,(hn q).1 h6,h7⟩}⟩
theorem wT{p:List (List Int)}{j:Nat}(h:j<p.length):aH p j=jE p[j]:=dM h
theorem GG{ρ:aG}{T:Nat->Prop}{w:World}{e st n:Nat}{g g':Nat->List SV}{b:Nat}(h: ∀i,i<n->g i=g' i)(hr:eF ρ T w (.row e st n g) b):eF ρ T w (.row e st n g') b:=by
 obtain ⟨vs,r1,r2,r3⟩:=hr
 exact ⟨vs,r1,r2,fun i hi=>by rw [<- h i hi];exact r3 i hi⟩
theorem R2{ρ:aG}{T:Nat->Prop}{w:World}{e:Nat}{p:List (List Int)}{b n:Nat}(hn:n=p.length)(hr:eF ρ T w (.lst e (uF p)) b):eF ρ T w (.row e 1 n (aH p)) b:=by
 subst hn
 exact GG (fun i hi=>by rw [EK p i hi,wT hi]) (oT (st:=1) (len:=p.length) (xF p) (by unfold uF;simp) hr)
theorem R0{e id m n:Nat}{L p:List (List Int)}{g h:Nat->List SV}(hp:p≠[])(hm:m=L.length)(hn:n=p.length)(hg: ∀j (h:j<L.length),g j=jE L[j])(hh: ∀j (x:j<p.length),h j=jE p[j]):
  cB e 1 id jE (L++p) (.own id 0 1 (m+n)) (some (.row e 1 (m+n) (nZ m g h))):=
 .inr ⟨nZ m g h,by simp [hp],by rw [hm,hn];simp,by rw [hm,hn];simp,fun j hj=>by
  unfold nZ
  by_cases c:j<m
  ·rw [show Nat.blt j m=true from Nat.ble_eq_true_of_le c]
   rw [List.getElem_append_left (by omega)]
   exact hg j (by omega)
  ·rw [show Nat.blt j m=false from Bool.eq_false_iff.2 fun x=>c (Nat.le_of_ble_eq_true x)]
   rw [List.length_append] at hj
   rw [List.getElem_append_right (by omega)]
   show h (j - m)=_
   subst hm
   exact hh (j - L.length) (by omega)⟩
theorem kR(f:Nat->Int)(a n:Nat):(fQ f a n).length=n:=by unfold fQ;simp
theorem kO(f:Nat->Int)(a n:Nat):(fO f a n).length=n:=by unfold fO;simp
theorem fJ(x y:Nat->Int): ∀(n a:Nat),(dD x y a n).length=2*n
 |0,_=>rfl
 |n+1,a=>by show (dD x y (a+1) n).length+1+1=_;rw [fJ x y n];omega
theorem VU(f:Nat->Int)(a n:Nat):fQ (fun i=>f (i+a)) 0 n=fQ f a n:=by
 unfold fQ
 rw [List.range'_eq_map_range,List.range'_eq_map_range,List.map_map,List.map_map]
 exact List.map_congr_left fun i _=>by show aC (f (0+i+a))=aC (f (a+i));rw [Nat.zero_add,Nat.add_comm]
theorem UY(f:Nat->Int)(a n:Nat):fO (fun i=>f (i+a)) 0 n=fO f a n:=by
 unfold fO
 rw [List.range'_eq_map_range,List.range'_eq_map_range,List.map_map,List.map_map]
 exact List.map_congr_left fun i _=>by show aJ (f (0+i+a))=aJ (f (a+i));rw [Nat.zero_add,Nat.add_comm]
theorem uX {env:Env} {W:Nat->St->Option St} {fn:Func} {path:List Nat} {blk:Nat} {KK:Ex->St->Prop} {e:Nat} (F:Nat->List (List Int)) (S:SV->Option SB->Nat->St) (n:Nat) (h0:F 0=[])
  (hr: ∀i o b,i<n->cB e 1 0 jE (F i) o b-> ∀X:St->Prop,(∀o' b',cB e 1 0 jE (F (i+1)) o' b'->X (S o' b' (i+1)))->aF env W fn path blk (eT X KK) (S o b i))
  (he: ∀o b,cB e 1 0 jE (F n) o b-> ∀X:St->Prop,aF env W fn path blk (eT X KK) (S o b n)):
  iter (aF env W fn path blk) KK (n+1) (S .nils none 0):=
 gV (fun a:SV×Option SB×Nat=>S a.1 a.2.1 a.2.2) (fun a=>n - a.2.2) (fun a=>a.2.2<=n/\cB e 1 0 jE (F a.2.2) a.1 a.2.1) (fun ⟨o,b,i⟩ ⟨h1,h2⟩ X hX=>by
  simp only at h1 h2 hX|-
  by_cases h:i<n
  ·exact hr i o b h h2 X fun o' b' ht=>hX (o',b',i+1) ⟨h,ht⟩ (by show n - (i+1)<n - i;omega)
  ·obtain rfl:i=n:=by omega
   exact he o b h2 X) (n+1) (.nils,none,0) ⟨Nat.zero_le _,by rw [h0];exact kQ⟩ (by show n - 0<n+1;omega)
theorem A6{a b:List Int}: ∀i:Nat,i<2->(aH [a,b] i).length=1/\(aH [a,b] i).all aW=true:=fun i hi=>by
 match i,hi with
 |0,_=>exact ⟨rfl,rfl⟩
 |1,_=>exact ⟨rfl,rfl⟩
theorem d7.cells{g:Nat->List SV}{p:List (List Int)}(h:d7 g p): ∀i,i<p.length->(g i).length=1/\(g i).all aW=true:=fun i hi=>by rw [h i hi];exact ⟨rfl,rfl⟩
theorem fF(p:List (List Int)):d7 (aH p) p:=fun _ h=>wT h
theorem sZ{w:List Int}{g:Nat->List SV}{p:List (List Int)}(h:d7 g p):d7 (nZ 1 (fun i=>cut [.str (bytesOf w)] (i*1) 1) g) (w::p):=fun j hj=>by
 cases j with
 |zero=>rfl
 |succ j=>exact h j (by simpa using hj)
structure eZ (w:List Int) (p:List (List Int)):Prop where
 ne:0<p.length
 inB:bB (lnW w p)
 len:(lnW w p).length<=1073741824
theorem eZ.pos{w:List Int}{p:List (List Int)}(_:eZ w p):0<(lnW w p).length:=by unfold lnW;rw [List.length_append];exact Nat.succ_pos _
theorem aA3(p:List (List Int)):p.length<=(gZ p).length:=by rw [FS];omega
theorem eZ.facts{w:List Int}{p:List (List Int)}(h:eZ w p):aA (bytesOf (dF (w::p))++(⟨#[10]⟩:ByteArray))=lnW w p/\(dF (w::p)).length<=1099511627776/\1+p.length<=1073741824/\(dF (w::p)).length+1<=1099511627776:=by
 have e:lnW w p=dF (w::p)++[10]:=rfl
 have hl:=h.len
 rw [e,List.length_append] at hl
 have hl:(dF (w::p)).length+1<=1073741824:=hl
 have hp:=aA3 p
 have hj:(dF (w::p)).length=w.length+(gZ p).length:=List.length_append
 refine ⟨?_,by omega,by omega,by omega⟩
 rw [YY,cG (fun x hx=>h.inB x (by rw [e];exact List.mem_append_left _ hx))]
 rfl
def kS(l l0 w:List Int)(p:List (List Int)):Prop:=l=l0++lnW w p
def jV(l l0 m:List Int):Prop:=l=l0++m
def aGm(fn:Func)(path:List Nat)(nt:Nat)(l:kB):SB:=
 match pQ (GS fn) path with
 | .rangeFunc _ ps a b=> .loop (nK l (lW a++lW b)) nt ps.toList a b .ready
 |_=> .cells 0 []
def XZ(a:Nat):Nat->kB
 |0=>[]
 |n+1=>(a+n,.junk)::XZ a n
def dW(p:List (List Int)):Prop:= ∀x,x∈p->bB x/\x.length<=42
theorem zX : ∀{p:List (List Int)},dW p->bB (gZ p)/\(gZ p).length<=43*p.length
 | [],_=>⟨fun x hx=>(by cases hx),Nat.le_refl _⟩
 |w::r,h=>by
  obtain ⟨h1,h2⟩:=zX (p:=r) fun x hx=>h x (List.mem_cons_of_mem _ hx)
  obtain ⟨h3,h4⟩:=h w (List.mem_cons_self ..)
  refine ⟨fun x hx=> ?_, ?_⟩
  ·rcases List.mem_cons.1 hx with rfl|hx
   ·decide
   ·rcases List.mem_append.1 hx with hx|hx
    ·exact h3 x hx
    ·exact h1 x hx
  ·show (w++gZ r).length+1<=43*(r.length+1)
   rw [List.length_append];omega
theorem g9{w:List Int}{p:List (List Int)}(h:dW p):(lnW w p).length<=w.length+43*p.length+1:=by
 have:=(zX h).2
 unfold lnW
 simp only [List.length_append,List.length_cons,List.length_nil];omega
theorem dY{w:List Int}{p:List (List Int)}(hw:bB w/\w.length<=100)(h:dW p)(h0:0<p.length)(h1:p.length<=1000):eZ w p where
 ne:=h0
 inB:=fun x hx=>by
  unfold lnW at hx
  rcases List.mem_append.1 hx with hx|hx
  ·rcases List.mem_append.1 hx with hx|hx
   ·exact hw.1 x hx
   ·exact (zX h).1 x hx
  ·rw [List.mem_singleton.1 hx];decide
 len:=by have:=g9 (w:=w) h;omega
theorem BJ(f:Nat->Int)(a n:Nat):dW (fQ f a n):=fun x hx=>by
 obtain ⟨i,_,rfl⟩:=List.mem_map.1 hx
 exact ⟨j9 _,tA _⟩
theorem F1(n:Int):(aJ n).length<=42:=by
 unfold aJ kI
 rw [List.length_append]
 have:=iU (bG n) 1
 cases decide (n<0)<;>simp<;>omega
theorem C5(f:Nat->Int)(a n:Nat):dW (fO f a n):=fun x hx=>by
 obtain ⟨i,_,rfl⟩:=List.mem_map.1 hx
 exact ⟨oM _,F1 _⟩
theorem m8(x y:Nat->Int): ∀(n a:Nat),dW (dD x y a n)
 |0,_=>fun z hz=>by cases hz
 |n+1,a=>fun z hz=>by
  rcases List.mem_cons.1 hz with rfl|hz
  ·exact ⟨j9 _,tA _⟩
  ·rcases List.mem_cons.1 hz with rfl|hz
   ·exact ⟨j9 _,tA _⟩
   ·exact m8 x y n (a+1) z hz
theorem iG{f:Nat->List Int}{B:Nat}(h: ∀i,(f i).length<=B): ∀(n a:Nat),(bK f a n).length<=n*B
 |0,_=>Nat.zero_le _
 |n+1,a=>by
  show (f a++bK f (a+1) n).length<=(n+1)*B
  have h1:=iG h n (a+1)
  have h2:=h a
  rw [List.length_append,Nat.add_mul,Nat.one_mul];omega
def xB(f:Nat->Int)(m r:Nat):List Int:=lnW gQ (fQ f (r*m) m)
def xY(f:Nat->Int)(m r:Nat):List Int:=lnW iP (fO f (r*m) m)
theorem DP{f:Nat->Int}{m r:Nat}(h:m<=65):(xB f m r).length<=5000:=by
 have:=g9 (w:=gQ) (BJ f (r*m) m)
 rw [kR,show gQ.length=7 from rfl] at this
 unfold xB;omega
theorem CD{f:Nat->Int}{m r:Nat}(h:m<=65):(xY f m r).length<=5000:=by
 have:=g9 (w:=iP) (C5 f (r*m) m)
 rw [kO,show iP.length=6 from rfl] at this
 unfold xY;omega
theorem cC{w:List Int}(h:(w.all (fun x=>decide (0<=x)&&decide (x<=255))&&decide (w.length<=100))=true):bB w/\w.length<=100:=by
 simp only [Bool.and_eq_true,List.all_eq_true,decide_eq_true_eq] at h
 exact ⟨fun x hx=>h.1 x hx,h.2⟩
theorem dR :dW []:=fun x hx=>by cases hx
theorem aL{x:List Int}{p:List (List Int)}(h:bB x/\x.length<=42)(hp:dW p):dW (x::p):=fun y hy=>by
 rcases List.mem_cons.1 hy with rfl|hy
 ·exact h
 ·exact hp y hy
theorem fA(n:Int):bB (aC n)/\(aC n).length<=42:=⟨j9 n,tA n⟩
theorem u3(n:Int):bB (aJ n)/\(aJ n).length<=42:=⟨oM n,F1 n⟩
theorem aAb(b:Bool):bB (onW b)/\(onW b).length<=42:=by cases b<;>exact ⟨(cC rfl).1,by decide⟩
theorem RO(b:Bool):bB (gX b)/\(gX b).length<=42:=by cases b<;>exact ⟨(cC rfl).1,by decide⟩
theorem aFc{a b c:List Int}:d7 (bI 2 [.str (bytesOf c)] (aH [a,b])) [a,b,c]:=fun j hj=>by
 match j,hj with
 |0,_=>rfl
 |1,_=>rfl
 |2,_=>rfl
 |j+3,hj=>exact absurd hj (by simp)
theorem aGo{a b c d e:List Int}:d7 (bI 4 [.str (bytesOf e)] (aH [a,b,c,d])) [a,b,c,d,e]:=fun j hj=>by
 match j,hj with
 |0,_=>rfl
 |1,_=>rfl
 |2,_=>rfl
 |3,_=>rfl
 |4,_=>rfl
 |j+5,hj=>exact absurd hj (by simp)
theorem lN{l l0 w:List Int}{p:List (List Int)}(h:kS l l0 w p)(hp:dW p):l.length<=l0.length+(w.length+43*p.length+1):=by
 have:=g9 (w:=w) hp
 unfold kS at h
 rw [h,List.length_append];omega
structure YR (t:Trk):Prop where
 cols:1<=t.cols/\t.cols<=64
 rows:1<=t.rows/\t.rows<=64
 nh:t.nh=(t.rows+1).toNat*(t.cols+1).toNat
 ng:t.ng=t.rows.toNat*t.cols.toNat
 nk:t.nk<=8
def CR(t:Trk)(i:Nat):List Int:=lnW iK [aC (t.kg i),aC (t.kd i),onW (t.ko i)]
end Go.Se
namespace Go.Proofs.YtghnfjfkjhbgdaaGreatDoor
open Go.Se
set_option maxRecDepth 100000
def inS(n:Nat)(f:Nat->Int)(o:SV)(r:Option SB)(i:Int):St:=⟨[(3,o),(6,.ro n 1 (aP f)),(7,.int .i64 n),(8,.int .i64 i)],[(0,r)],1,[0,1,2,3,4],19⟩
noncomputable abbrev inF :Func:=Tryz.f20
theorem aAE(n:Nat)(f:Nat->Int)(K:KC):eA muR (fun _=>0) n2 3 20 [.ro n 1 (aP f)] [] K=
 (∃q_,bO muE (aB muR 0) inF muP 0 0 K q_ {tmps:=[(3,SV.nils),(6,SV.ro n 1 (aP f)),(7,SV.int .i64 (↑n:Int)),(8,SV.int .i64 0)],store:=[(0,none)],nxt:=1,dirty:=[0,1,2,3,4],nt:=19}):=by kernel_rfl
theorem EU(n:Nat)(f:Nat->Int)(i:Nat)(K:Ex->St->Prop):aF muE (aB muR 0) inF muP 0 K (inS n f .nils none i)=
 (Br (decide ((↑i:Int)<(↑n:Int))) (Br (decide (0<=(↑i:Int))&&decide ((↑i:Int)<(↑n:Int))) (K Ex.normal {tmps:=[(3,SV.own 0 0 1 1),(6,SV.ro n 1 (aP f)),(7,SV.int .i64 (↑n:Int)),(8,SV.int .i64 (IntKind.i64.wrap ((↑i:Int)+1)))],store:=[(0,some (SB.row 9 1 1 fun (i_1:Nat)=>cut [SV.str (bytesOf (aJ (f (↑i:Int).toNat)))] (i_1*1) 1))],nxt:=1,dirty:=[0,1,2,3,4],nt:=19}) (False)) (K (Ex.exit 0) {tmps:=[(3,SV.nils),(6,SV.ro n 1 (aP f)),(7,SV.int .i64 (↑n:Int)),(8,SV.int .i64 (↑i:Int))],store:=[(0,none)],nxt:=1,dirty:=[0,1,2,3,4],nt:=19})):=by kernel_rfl
theorem E5(n:Nat)(f:Nat->Int)(m:Nat)(g:Nat->List SV)(i:Nat)(K:Ex->St->Prop):aF muE (aB muR 0) inF muP 0 K (inS n f (.own 0 0 1 m) (some (.row 9 1 m g)) i)=
 (Br (decide ((↑i:Int)<(↑n:Int))) (Br (decide (0<=(↑i:Int))&&decide ((↑i:Int)<(↑n:Int))) (Br (decide ((m+1)*16<=1099511627776)&&decide (m+1<9223372036854775808)&&decide (m=m)) (K Ex.normal {tmps:=[(3,SV.own 0 0 1 (m+1)),(6,SV.ro n 1 (aP f)),(7,SV.int .i64 (↑n:Int)),(8,SV.int .i64 (IntKind.i64.wrap ((↑i:Int)+1)))],store:=[(0,some (SB.row 9 1 (m+1) (bI m [SV.str (bytesOf (aJ (f (↑i:Int).toNat)))] g)))],nxt:=1,dirty:=[0,1,2,3,4],nt:=19}) (False)) (False)) (K (Ex.exit 0) {tmps:=[(3,SV.own 0 0 1 m),(6,SV.ro n 1 (aP f)),(7,SV.int .i64 (↑n:Int)),(8,SV.int .i64 (↑i:Int))],store:=[(0,some (SB.row 9 1 m g))],nxt:=1,dirty:=[0,1,2,3,4],nt:=19})):=by kernel_rfl
theorem SC(n:Nat)(f:Nat->Int)(i:Nat)(K:KC):aE muE (aB muR 0) inF muP 0 K (.exit 0) (inS n f .nils none i)=
 (K SV.nils [] []):=by kernel_rfl
theorem T9(n:Nat)(f:Nat->Int)(m:Nat)(g:Nat->List SV)(i:Nat)(K:KC):aE muE (aB muR 0) inF muP 0 K (.exit 0) (inS n f (.own 0 0 1 m) (some (.row 9 1 m g)) i)=
 (K (SV.own 0 0 1 m) [some (SB.row 9 1 m g)] []):=by kernel_rfl
theorem aDI(n:Nat)(f:Nat->Int)(hn:n<=1048576)(K:KC)(hK:nN 9 1 jE (fQ f 0 n) K):eA muR (fun _=>0) n2 3 57 [.ro n 1 (aP f)] [] K:=by
 rw [WT]
 refine ⟨n+1, ?_⟩
 show iter (aF muE (aB muR 0) muF muP 0) (aE muE (aB muR 0) muF muP 0 K) (n+1) (muS n f .nils none ((0:Nat):Int))
 refine uX (e:=9) (fQ f 0) (fun o b i=>muS n f o b i) n rfl (fun i o b hi ht X hX=> ?_) fun o b ht X=> ?_
 ·have hl:=kR f 0 i
  rcases ht with ⟨h0,rfl,rfl⟩|⟨g,hne,rfl,rfl,hg⟩
  ·rw [GE]
   refine Br.of (fun _=>Br.of (fun _=> ?_) fun c=>nH hi c) fun c=>nF hi c
   rw [aO hi (by omega)]
   exact hX _ _ (by rw [C7,h0];exact eO (by rw [Int.toNat_natCast,Nat.zero_add];rfl) rfl)
  ·rw [FN]
   refine Br.of (fun _=>Br.of (fun _=>Br.of (fun _=> ?_) fun c=>QU (m:=(fQ f 0 i).length) (by omega) c) fun c=>nH hi c) fun c=>nF hi c
   rw [aO hi (by omega)]
   exact hX _ _ (by rw [C7];exact fM (by rw [Int.toNat_natCast,Nat.zero_add];rfl) rfl hg)
 ·rcases ht with ⟨h0,rfl,rfl⟩|⟨g,hne,rfl,rfl,hg⟩
  ·rw [GE]
   refine Br.of (fun c=>mD c) fun _=> ?_
   show aE muE (aB muR 0) muF muP 0 K (.exit 0) (muS n f .nils none n)
   rw [U9];exact hK.1 h0
  ·rw [FN]
   refine Br.of (fun c=>mD c) fun _=> ?_
   show aE muE (aB muR 0) muF muP 0 K (.exit 0) (muS n f (.own 0 0 1 _) (some (.row 9 1 _ g)) n)
   rw [V2];exact hK.2 g hne hg
theorem aDR(n:Nat)(f:Nat->Int)(hn:n<=1048576)(K:KC)(hK:nN 9 1 jE (fO f 0 n) K):eA muR (fun _=>0) n2 3 20 [.ro n 1 (aP f)] [] K:=by
 rw [aAE]
 refine ⟨n+1, ?_⟩
 show iter (aF muE (aB muR 0) inF muP 0) (aE muE (aB muR 0) inF muP 0 K) (n+1) (inS n f .nils none ((0:Nat):Int))
 refine uX (e:=9) (fO f 0) (fun o b i=>inS n f o b i) n rfl (fun i o b hi ht X hX=> ?_) fun o b ht X=> ?_
 ·have hl:=kO f 0 i
  rcases ht with ⟨h0,rfl,rfl⟩|⟨g,hne,rfl,rfl,hg⟩
  ·rw [EU]
   refine Br.of (fun _=>Br.of (fun _=> ?_) fun c=>nH hi c) fun c=>nF hi c
   rw [aO hi (by omega)]
   exact hX _ _ (by rw [CY,h0];exact eO (by rw [Int.toNat_natCast,Nat.zero_add];rfl) rfl)
  ·rw [E5]
   refine Br.of (fun _=>Br.of (fun _=>Br.of (fun _=> ?_) fun c=>QU (m:=(fO f 0 i).length) (by omega) c) fun c=>nH hi c) fun c=>nF hi c
   rw [aO hi (by omega)]
   exact hX _ _ (by rw [CY];exact fM (by rw [Int.toNat_natCast,Nat.zero_add];rfl) rfl hg)
 ·rcases ht with ⟨h0,rfl,rfl⟩|⟨g,hne,rfl,rfl,hg⟩
  ·rw [EU]
   refine Br.of (fun c=>mD c) fun _=> ?_
   show aE muE (aB muR 0) inF muP 0 K (.exit 0) (inS n f .nils none n)
   rw [SC];exact hK.1 h0
  ·rw [E5]
   refine Br.of (fun c=>mD c) fun _=> ?_
   show aE muE (aB muR 0) inF muP 0 K (.exit 0) (inS n f (.own 0 0 1 _) (some (.row 9 1 _ g)) n)
   rw [T9];exact hK.2 g hne hg
theorem aE8(n:Nat)(f:Nat->Int)(hn:n<=1048576):aD Tryz.prog 57 [.ro n 1 (aP f)] [] (.ro n 1 (aH (fQ f 0 n))) [] []:=by
 have:=tQ (d0:=[]) (R:=muR) (u:=fun _=>0) (B:=n2) (n:=3) (k:=57) (xs:=[.ro n 1 (aP f)]) (e:=9) (f:=jE) (L:=fQ f 0 n) (fun _=>rfl) fun _ K hK=>aDI n f hn K hK
 rw [kR] at this;exact this
theorem aFi(n:Nat)(f:Nat->Int)(hn:n<=1048576):aD Tryz.prog 20 [.ro n 1 (aP f)] [] (.ro n 1 (aH (fO f 0 n))) [] []:=by
 have:=tQ (d0:=[]) (R:=muR) (u:=fun _=>0) (B:=n2) (n:=3) (k:=20) (xs:=[.ro n 1 (aP f)]) (e:=9) (f:=jE) (L:=fO f 0 n) (fun _=>rfl) fun _ K hK=>aDR n f hn K hK
 rw [kO] at this;exact this
theorem aCm{k:FuncId}{xs:List SV}{σ:List (Option SB)}{v:SV}{b:SB}{e n:Nat}{p:List (List Int)}(hn:n=p.length)(h:aD Tryz.prog k xs σ v [some b,some (.lst e (uF p))] []):aD Tryz.prog k xs σ v [some b,some (.row e 1 n (aH p))] []:=
 yA (σ1:=[some b,some (.lst e (uF p))]) rfl (fun q=>by match q with|0=>simp|1=>simp|q+2=>simp) (fun q sb hq=>by
  match q,hq with
  |0,hq=>cases hq;exact ⟨_,rfl,fun _ _ _ _ h=>h⟩
  |1,hq=>cases hq;exact ⟨_,rfl,fun _ _ _ _ h=>R2 hn h⟩) h
theorem aE7(t:TypeId)(a:Int):aD Tryz.prog 57 [.arr 0 0 1 1] [some (.cells t [.int .i64 a])] (.own 1 0 1 1) [some (.cells t [.int .i64 a]),some (.row 9 1 1 (aH [aC a]))] []:=
 aCm rfl (jU 3 n2 3 fun _ _ K hK=>by rw [aFx];exact hK)
theorem aDD(t:TypeId)(a b:Int):aD Tryz.prog 57 [.arr 0 0 2 2] [some (.cells t [.int .i64 a,.int .i64 b])] (.own 1 0 1 2) [some (.cells t [.int .i64 a,.int .i64 b]),some (.row 9 1 2 (aH [aC a,aC b]))] []:=
 aCm rfl (jU 4 n2 3 fun _ _ K hK=>by rw [aFn];exact hK)
theorem aD3(t:TypeId)(a:Int):aD Tryz.prog 20 [.arr 0 0 1 1] [some (.cells t [.int .i64 a])] (.own 1 0 1 1) [some (.cells t [.int .i64 a]),some (.row 9 1 1 (aH [aJ a]))] []:=
 aCm rfl (jU 3 n2 3 fun _ _ K hK=>by rw [aDJ];exact hK)
theorem aDy(t:TypeId)(a b:Int):aD Tryz.prog 20 [.arr 0 0 2 2] [some (.cells t [.int .i64 a,.int .i64 b])] (.own 1 0 1 2) [some (.cells t [.int .i64 a,.int .i64 b]),some (.row 9 1 2 (aH [aJ a,aJ b]))] []:=
 aCm rfl (jU 4 n2 3 fun _ _ K hK=>by rw [aDQ];exact hK)
def cNu(T:(Nat->Int)->Nat->List (List Int))(W:Int->List Int):List SV->List (Option SB)->KC->Prop
 | [.ro n 1 g],[],K=> ∃f:Nat->Int,(g=aP f/\n<=1048576)/\K (.ro n 1 (aH (T f n))) [] []
 | [.arr 0 0 1 1],[some (.cells t [.int .i64 a])],K=>K (.own 1 0 1 1) [some (.cells t [.int .i64 a]),some (.row 9 1 1 (aH [W a]))] []
 | [.arr 0 0 2 2],[some (.cells t [.int .i64 a,.int .i64 b])],K=>K (.own 1 0 1 2) [some (.cells t [.int .i64 a,.int .i64 b]),some (.row 9 1 2 (aH [W a,W b]))] []
 |_,_,_=>False
theorem aFu(xs:List SV)(σ:List (Option SB)):Sat Tryz.prog 57 xs σ (cNu (fun f n=>fQ f 0 n) aC xs σ):=by
 intro K hK
 unfold cNu at hK
 split at hK
 case h_4=>exact hK.elim
 ·obtain ⟨f,⟨rfl,h⟩,hK⟩:=hK;exact ⟨_,_,_,hK,aE8 _ f h⟩
 ·exact ⟨_,_,_,hK,aE7 _ _⟩
 ·exact ⟨_,_,_,hK,aDD _ _ _⟩
theorem aDN(xs:List SV)(σ:List (Option SB)):Sat Tryz.prog 20 xs σ (cNu (fun f n=>fO f 0 n) aJ xs σ):=by
 intro K hK
 unfold cNu at hK
 split at hK
 case h_4=>exact hK.elim
 ·obtain ⟨f,⟨rfl,h⟩,hK⟩:=hK;exact ⟨_,_,_,hK,aFi _ f h⟩
 ·exact ⟨_,_,_,hK,aD3 _ _⟩
 ·exact ⟨_,_,_,hK,aDy _ _ _⟩
noncomputable def n3 :bT Tryz.prog:=((n2).add 57 (cNu (fun f n=>fQ f 0 n) aC) aFu).add 20 (cNu (fun f n=>fO f 0 n) aJ) aDN
end Go.Proofs.YtghnfjfkjhbgdaaGreatDoor
namespace Go.Proofs.YtghnfjfkjhbgdaaGreatDoor
open Go.Se
set_option maxRecDepth 100000
noncomputable abbrev plE :Env:=fW muR (fun _=>0) n3 2
noncomputable abbrev plF :Func:=Tryz.f18
def plS(n:Nat)(x y:Nat->Int)(o:SV)(r:Option SB)(i:Int):St:=⟨[(3,o),(6,.ro n 2 (bS x y)),(7,.int .i64 n),(8,.int .i64 i)],[(0,r)],1,[0,1,2,3,4],22⟩
theorem ZJ(n:Nat)(x y:Nat->Int)(K:KC):eA muR (fun _=>0) n3 3 18 [.ro n 2 (bS x y)] [] K=
 (∃q_,bO plE (aB muR 0) plF muP 0 0 K q_ {tmps:=[(3,SV.nils),(6,SV.ro n 2 (bS x y)),(7,SV.int .i64 (↑n:Int)),(8,SV.int .i64 0)],store:=[(0,none)],nxt:=1,dirty:=[0,1,2,3,4],nt:=22}):=by kernel_rfl
theorem F3(n:Nat)(x y:Nat->Int)(i:Nat)(K:Ex->St->Prop):aF plE (aB muR 0) plF muP 0 K (plS n x y .nils none i)=
 (Br (decide ((↑i:Int)<(↑n:Int))) (Br (decide (0<=(↑i:Int))&&decide ((↑i:Int)<(↑n:Int))) ((∀(i_1:Nat),i_1<2->(aH [aC (x (↑i:Int).toNat),aC (y (↑i:Int).toNat)] i_1).length=1/\(aH [aC (x (↑i:Int).toNat),aC (y (↑i:Int).toNat)] i_1).all aW=true)/\(K Ex.normal {tmps:=[(3,SV.own 0 0 1 2),(6,SV.ro n 2 (bS x y)),(7,SV.int .i64 (↑n:Int)),(8,SV.int .i64 (IntKind.i64.wrap ((↑i:Int)+1)))],store:=[(0,some (SB.row 9 1 2 (aH [aC (x (↑i:Int).toNat),aC (y (↑i:Int).toNat)])))],nxt:=1,dirty:=[0,1,2,3,4],nt:=22})) (False)) (K (Ex.exit 0) {tmps:=[(3,SV.nils),(6,SV.ro n 2 (bS x y)),(7,SV.int .i64 (↑n:Int)),(8,SV.int .i64 (↑i:Int))],store:=[(0,none)],nxt:=1,dirty:=[0,1,2,3,4],nt:=22})):=by kernel_rfl
theorem E4(n:Nat)(x y:Nat->Int)(m:Nat)(g:Nat->List SV)(i:Nat)(K:Ex->St->Prop):aF plE (aB muR 0) plF muP 0 K (plS n x y (.own 0 0 1 m) (some (.row 9 1 m g)) i)=
 (Br (decide ((↑i:Int)<(↑n:Int))) (Br (decide (0<=(↑i:Int))&&decide ((↑i:Int)<(↑n:Int))) ((∀(i_1:Nat),i_1<2->(aH [aC (x (↑i:Int).toNat),aC (y (↑i:Int).toNat)] i_1).length=1/\(aH [aC (x (↑i:Int).toNat),aC (y (↑i:Int).toNat)] i_1).all aW=true)/\(Br (true&&decide (m=m)&&(decide ((m+2)*16<=1099511627776)&&decide (m+2<9223372036854775808))) (K Ex.normal {tmps:=[(3,SV.own 0 0 1 (m+2)),(6,SV.ro n 2 (bS x y)),(7,SV.int .i64 (↑n:Int)),(8,SV.int .i64 (IntKind.i64.wrap ((↑i:Int)+1)))],store:=[(0,some (SB.row 9 1 (m+2) (nZ m g (aH [aC (x (↑i:Int).toNat),aC (y (↑i:Int).toNat)]))))],nxt:=1,dirty:=[0,1,2,3,4],nt:=22}) (False))) (False)) (K (Ex.exit 0) {tmps:=[(3,SV.own 0 0 1 m),(6,SV.ro n 2 (bS x y)),(7,SV.int .i64 (↑n:Int)),(8,SV.int .i64 (↑i:Int))],store:=[(0,some (SB.row 9 1 m g))],nxt:=1,dirty:=[0,1,2,3,4],nt:=22})):=by kernel_rfl
theorem U7(n:Nat)(x y:Nat->Int)(i:Nat)(K:KC):aE plE (aB muR 0) plF muP 0 K (.exit 0) (plS n x y .nils none i)=
 (K SV.nils [] []):=by kernel_rfl
theorem SD(n:Nat)(x y:Nat->Int)(m:Nat)(g:Nat->List SV)(i:Nat)(K:KC):aE plE (aB muR 0) plF muP 0 K (.exit 0) (plS n x y (.own 0 0 1 m) (some (.row 9 1 m g)) i)=
 (K (SV.own 0 0 1 m) [some (SB.row 9 1 m g)] []):=by kernel_rfl
theorem aEe(t:TypeId)(a b:Int)(K:KC):n9 3 n3 3 18 [.arr 0 0 1 1] [some (.cells t [.int .i64 a,.int .i64 b])] K=
 ((∀(i:Nat),i<2->(aH [aC a,aC b] i).length=1/\(aH [aC a,aC b] i).all aW=true)/\(K (SV.own 1 0 1 2) [some (SB.cells t [SV.int .i64 a,SV.int .i64 b]),some (SB.row 9 1 2 (aH [aC a,aC b]))] [])):=by kernel_rfl
theorem aFk(t:TypeId)(a b c d:Int)(K:KC):n9 4 n3 3 18 [.arr 0 0 2 2] [some (.cells t [.int .i64 a,.int .i64 b,.int .i64 c,.int .i64 d])] K=
 ((∀(i:Nat),i<2->(aH [aC a,aC b] i).length=1/\(aH [aC a,aC b] i).all aW=true)/\((∀(i:Nat),i<2->(aH [aC c,aC d] i).length=1/\(aH [aC c,aC d] i).all aW=true)/\(K (SV.own 1 0 1 4) [some (SB.cells t [SV.int .i64 a,SV.int .i64 b,SV.int .i64 c,SV.int .i64 d]),some (SB.row 9 1 4 (nZ 2 (aH [aC a,aC b]) (aH [aC c,aC d])))] []))):=by kernel_rfl
theorem aDY(s:ByteArray)(n:Nat)(g:Nat->List SV)(K:KC):run n3 3 17 [.agg [.ptr 0 0],.str s,.own 1 0 1 n] [some (.cells sbT [.nilp,.nils]),some (.row 9 1 n g)] K=
 ((∀(i:Nat),i<n->(g i).length=1/\(g i).all aW=true)/\(Br (decide (n<=n)&&decide (0<n)&&(decide ((1+n)*16<=1099511627776)&&decide (1+n<9223372036854775808))) (∃(e398:List (List Int)),((1+n=e398.length/\1+n=1+n/\d7 (nZ 1 (fun (i:Nat)=>cut [SV.str s] (i*1) 1) g) e398)/\(⟨#[32]⟩:ByteArray)=(⟨#[32]⟩:ByteArray)/\(dF e398).length<=1099511627776/\1+n<=1099511627776)/\(Br (decide ((bytesOf (dF e398)).size+1<9223372036854775808)) ((0<(bytesOf (dF e398)++(⟨#[10]⟩:ByteArray)).size/\(bytesOf (dF e398)++(⟨#[10]⟩:ByteArray)).size<=1099511627776)/\(K (SV.tup []) [some (SB.cells 49 [SV.ptr 0 0,SV.own 2 0 1 (bytesOf (dF e398)++(⟨#[10]⟩:ByteArray)).size]),some (SB.row 9 1 n g),some (SB.row 5 1 (bytesOf (dF e398)++(⟨#[10]⟩:ByteArray)).size (tG (aA (bytesOf (dF e398)++(⟨#[10]⟩:ByteArray)))))] [0])) (False))) (False))):=by kernel_rfl
theorem aFq(s:ByteArray)(m:Nat)(h:Nat->List SV)(n:Nat)(g:Nat->List SV)(K:KC):run n3 3 17 [.agg [.ptr 0 0],.str s,.own 2 0 1 n] [some (.cells sbT [.ptr 0 0,.own 1 0 1 m]),some (.row 5 1 m h),some (.row 9 1 n g)] K=
 ((∀(i:Nat),i<n->(g i).length=1/\(g i).all aW=true)/\(Br (decide (n<=n)&&decide (0<n)&&(decide ((1+n)*16<=1099511627776)&&decide (1+n<9223372036854775808))) (∃(e398:List (List Int)),((1+n=e398.length/\1+n=1+n/\d7 (nZ 1 (fun (i:Nat)=>cut [SV.str s] (i*1) 1) g) e398)/\(⟨#[32]⟩:ByteArray)=(⟨#[32]⟩:ByteArray)/\(dF e398).length<=1099511627776/\1+n<=1099511627776)/\(Br (decide ((bytesOf (dF e398)).size+1<9223372036854775808)) (∃(e395:List Int),((m=e395.length/\m=e395.length/\h=tG e395)/\e395.length+(bytesOf (dF e398)++(⟨#[10]⟩:ByteArray)).size<=1099511627776)/\(K (SV.tup []) [some (SB.cells 49 [SV.ptr 0 0,SV.own 3 0 1 (e395++aA (bytesOf (dF e398)++(⟨#[10]⟩:ByteArray))).length]),none,some (SB.row 9 1 n g),some (SB.row 5 1 (e395++aA (bytesOf (dF e398)++(⟨#[10]⟩:ByteArray))).length (tG (e395++aA (bytesOf (dF e398)++(⟨#[10]⟩:ByteArray)))))] [1,0])) (False))) (False))):=by kernel_rfl
theorem aEJ(s:ByteArray)(m:Nat)(h:Nat->List SV)(n:Nat)(g:Nat->List SV)(K:KC):run n3 3 17 [.agg [.ptr 0 0],.str s,.ro n 1 g] [some (.cells sbT [.ptr 0 0,.own 1 0 1 m]),some (.row 5 1 m h)] K=
 ((∀(i:Nat),i<n->(g i).length=1/\(g i).all aW=true)/\(Br (true&&decide (0<n)&&(decide ((1+n)*16<=1099511627776)&&decide (1+n<9223372036854775808))) (∃(e398:List (List Int)),((1+n=e398.length/\1+n=1+n/\d7 (nZ 1 (fun (i:Nat)=>cut [SV.str s] (i*1) 1) g) e398)/\(⟨#[32]⟩:ByteArray)=(⟨#[32]⟩:ByteArray)/\(dF e398).length<=1099511627776/\1+n<=1099511627776)/\(Br (decide ((bytesOf (dF e398)).size+1<9223372036854775808)) (∃(e395:List Int),((m=e395.length/\m=e395.length/\h=tG e395)/\e395.length+(bytesOf (dF e398)++(⟨#[10]⟩:ByteArray)).size<=1099511627776)/\(K (SV.tup []) [some (SB.cells 49 [SV.ptr 0 0,SV.own 2 0 1 (e395++aA (bytesOf (dF e398)++(⟨#[10]⟩:ByteArray))).length]),none,some (SB.row 5 1 (e395++aA (bytesOf (dF e398)++(⟨#[10]⟩:ByteArray))).length (tG (e395++aA (bytesOf (dF e398)++(⟨#[10]⟩:ByteArray)))))] [1,0])) (False))) (False))):=by kernel_rfl
theorem aFy(n:Nat)(x y:Nat->Int)(hn:n<=1048576)(K:KC)(hK:nN 9 1 jE (dD x y 0 n) K):eA muR (fun _=>0) n3 3 18 [.ro n 2 (bS x y)] [] K:=by
 rw [ZJ]
 refine ⟨n+1, ?_⟩
 show iter (aF plE (aB muR 0) plF muP 0) (aE plE (aB muR 0) plF muP 0 K) (n+1) (plS n x y .nils none ((0:Nat):Int))
 refine uX (e:=9) (dD x y 0) (fun o b i=>plS n x y o b i) n rfl (fun i o b hi ht X hX=> ?_) fun o b ht X=> ?_
 ·have hl:=fJ x y i 0
  rcases ht with ⟨h0,rfl,rfl⟩|⟨g,hne,rfl,rfl,hg⟩
  ·rw [F3]
   refine Br.of (fun _=>Br.of (fun _=>⟨A6, ?_⟩) fun c=>nH hi c) fun c=>nF hi c
   rw [aO hi (by omega),Int.toNat_natCast]
   refine hX _ _ ?_
   rw [pX,h0,Nat.zero_add]
   exact .inr ⟨_,by simp,rfl,rfl,fun j hj=>wT hj⟩
  ·rw [E4]
   refine Br.of (fun _=>Br.of (fun _=>⟨A6,Br.of (fun _=> ?_) fun c=>absurd c (by simp;omega)⟩) fun c=>nH hi c) fun c=>nF hi c
   rw [aO hi (by omega),Int.toNat_natCast]
   refine hX _ _ ?_
   rw [pX,Nat.zero_add]
   exact R0 (by simp) rfl rfl hg fun j hj=>wT hj
 ·rcases ht with ⟨h0,rfl,rfl⟩|⟨g,hne,rfl,rfl,hg⟩
  ·rw [F3]
   refine Br.of (fun c=>mD c) fun _=> ?_
   show aE plE (aB muR 0) plF muP 0 K (.exit 0) (plS n x y .nils none n)
   rw [U7];exact hK.1 h0
  ·rw [E4]
   refine Br.of (fun c=>mD c) fun _=> ?_
   show aE plE (aB muR 0) plF muP 0 K (.exit 0) (plS n x y (.own 0 0 1 _) (some (.row 9 1 _ g)) n)
   rw [SD];exact hK.2 g hne hg
theorem aEy(n:Nat)(x y:Nat->Int)(hn:n<=1048576):aD Tryz.prog 18 [.ro n 2 (bS x y)] [] (.ro (2*n) 1 (aH (dD x y 0 n))) [] []:=by
 have:=tQ (d0:=[]) (R:=muR) (u:=fun _=>0) (B:=n3) (n:=3) (k:=18) (xs:=[.ro n 2 (bS x y)]) (e:=9) (f:=jE) (L:=dD x y 0 n) (fun _=>rfl) fun _ K hK=>aFy n x y hn K hK
 rw [fJ] at this;exact this
theorem aEg(t:TypeId)(a b:Int):aD Tryz.prog 18 [.arr 0 0 1 1] [some (.cells t [.int .i64 a,.int .i64 b])] (.own 1 0 1 2) [some (.cells t [.int .i64 a,.int .i64 b]),some (.row 9 1 2 (aH [aC a,aC b]))] []:=
 jU 3 n3 3 fun _ _ K hK=>by rw [aEe];exact ⟨A6,hK⟩
theorem aGC{k:FuncId}{xs:List SV}{σ:List (Option SB)}{v:SV}{b:SB}{e n:Nat}{g g':Nat->List SV}(h: ∀i,i<n->g i=g' i)(hc:aD Tryz.prog k xs σ v [some b,some (.row e 1 n g)] []):aD Tryz.prog k xs σ v [some b,some (.row e 1 n g')] []:=
 yA (σ1:=[some b,some (.row e 1 n g)]) rfl (fun q=>by match q with|0=>simp|1=>simp|q+2=>simp) (fun q sb hq=>by
  match q,hq with
  |0,hq=>cases hq;exact ⟨_,rfl,fun _ _ _ _ h=>h⟩
  |1,hq=>cases hq;exact ⟨_,rfl,fun _ _ _ _ hr=>GG h hr⟩) hc
theorem aDO(t:TypeId)(a b c d:Int):aD Tryz.prog 18 [.arr 0 0 2 2] [some (.cells t [.int .i64 a,.int .i64 b,.int .i64 c,.int .i64 d])] (.own 1 0 1 4) [some (.cells t [.int .i64 a,.int .i64 b,.int .i64 c,.int .i64 d]),some (.row 9 1 4 (aH [aC a,aC b,aC c,aC d]))] []:=
 aGC (g:=nZ 2 (aH [aC a,aC b]) (aH [aC c,aC d])) (fun i hi=>by match i,hi with|0,_=>rfl|1,_=>rfl|2,_=>rfl|3,_=>rfl|i+4,hi=>omega) (jU 4 n3 3 fun _ _ K hK=>by rw [aFk];exact ⟨A6,A6,hK⟩)
def cPl :List SV->List (Option SB)->KC->Prop
 | [.ro n 2 g],[],K=> ∃x y:Nat->Int,(g=bS x y/\n<=1048576)/\K (.ro (2*n) 1 (aH (dD x y 0 n))) [] []
 | [.arr 0 0 1 1],[some (.cells t [.int .i64 a,.int .i64 b])],K=>K (.own 1 0 1 2) [some (.cells t [.int .i64 a,.int .i64 b]),some (.row 9 1 2 (aH [aC a,aC b]))] []
 | [.arr 0 0 2 2],[some (.cells t [.int .i64 a,.int .i64 b,.int .i64 c,.int .i64 d])],K=>K (.own 1 0 1 4) [some (.cells t [.int .i64 a,.int .i64 b,.int .i64 c,.int .i64 d]),some (.row 9 1 4 (aH [aC a,aC b,aC c,aC d]))] []
 |_,_,_=>False
theorem aCC(xs:List SV)(σ:List (Option SB)):Sat Tryz.prog 18 xs σ (cPl xs σ):=by
 intro K hK
 unfold cPl at hK
 split at hK
 case h_4=>exact hK.elim
 ·obtain ⟨x,y,⟨rfl,h⟩,hK⟩:=hK;exact ⟨_,_,_,hK,aEy _ x y h⟩
 ·exact ⟨_,_,_,hK,aEg _ _ _⟩
 ·exact ⟨_,_,_,hK,aDO _ _ _ _ _⟩
def cLn :List SV->List (Option SB)->KC->Prop
 | [.agg [.ptr 0 0],.str s,.own 1 0 1 n],[some (.cells 49 [.nilp,.nils]),some (.row 9 1 n' g)],K=> ∃(w:List Int) (p:List (List Int)),((s=bytesOf w/\n=p.length/\n'=n/\d7 g p)/\eZ w p)/\
   ∀l:List Int,kS l [] w p->K (.tup []) [some (.cells 49 [.ptr 0 0,.own 2 0 1 l.length]),some (.row 9 1 n g),some (.row 5 1 l.length (tG l))] [0]
 | [.agg [.ptr 0 0],.str s,.own 2 0 1 n],[some (.cells 49 [.ptr 0 0,.own 1 0 1 m]),some (.row 5 1 m' h),some (.row 9 1 n' g)],K=> ∃(w:List Int) (p:List (List Int)) (l0:List Int),((s=bytesOf w/\n=p.length/\n'=n/\d7 g p)/\eZ w p/\m=l0.length/\m'=l0.length/\h=tG l0/\l0.length<=1073741824)/\
   ∀l:List Int,kS l l0 w p->K (.tup []) [some (.cells 49 [.ptr 0 0,.own 3 0 1 l.length]),none,some (.row 9 1 n g),some (.row 5 1 l.length (tG l))] [1,0]
 | [.agg [.ptr 0 0],.str s,.ro n 1 g],[some (.cells 49 [.ptr 0 0,.own 1 0 1 m]),some (.row 5 1 m' h)],K=> ∃(w:List Int) (p:List (List Int)) (l0:List Int),((s=bytesOf w/\n=p.length/\d7 g p)/\eZ w p/\m=l0.length/\m'=l0.length/\h=tG l0/\l0.length<=1073741824)/\
   ∀l:List Int,kS l l0 w p->K (.tup []) [some (.cells 49 [.ptr 0 0,.own 2 0 1 l.length]),none,some (.row 5 1 l.length (tG l))] [1,0]
 |_,_,_=>False
theorem aE4(xs:List SV)(σ:List (Option SB)):Sat Tryz.prog 17 xs σ (cLn xs σ):=by
 intro K hK
 unfold cLn at hK
 split at hK
 case h_4=>exact hK.elim
 ·obtain ⟨w,p,⟨⟨rfl,rfl,rfl,hg⟩,ho⟩,hK⟩:=hK
  obtain ⟨e1,e2,e3,e4⟩:=ho.facts
  refine ⟨_,_,_,hK _ rfl,aV n3 3 fun _ _ K hK=> ?_⟩
  rw [aDY]
  refine ⟨hg.cells,Br.of (fun _=>⟨w::p,⟨⟨by simp;omega,rfl,sZ hg⟩,rfl,e2,by omega⟩,Br.of (fun _=> ?_) fun c=>absurd (of_decide_eq_false c) (by rw [aR];omega)⟩) fun c=>absurd c (by have:=ho.ne;simp;omega)⟩
  have e5:=bU (bytesOf (dF (w::p))++(⟨#[10]⟩:ByteArray))
  rw [e1] at e5|-
  rw [<- e5]
  exact ⟨⟨by have:=ho.pos;omega,by have:=ho.len;omega⟩,hK⟩
 ·obtain ⟨w,p,l0,⟨⟨rfl,rfl,rfl,hg⟩,ho,rfl,rfl,rfl,hl⟩,hK⟩:=hK
  obtain ⟨e1,e2,e3,e4⟩:=ho.facts
  refine ⟨_,_,_,hK _ rfl,aV n3 3 fun _ _ K hK=> ?_⟩
  rw [aFq]
  refine ⟨hg.cells,Br.of (fun _=>⟨w::p,⟨⟨by simp;omega,rfl,sZ hg⟩,rfl,e2,by omega⟩,Br.of (fun _=>⟨l0,⟨⟨rfl,rfl,rfl⟩, ?_⟩, ?_⟩) fun c=>absurd (of_decide_eq_false c) (by rw [aR];omega)⟩) fun c=>absurd c (by have:=ho.ne;simp;omega)⟩
  ·rw [<- bU,e1];have:=ho.len;omega
  ·rw [e1];exact hK
 ·obtain ⟨w,p,l0,⟨⟨rfl,rfl,hg⟩,ho,rfl,rfl,rfl,hl⟩,hK⟩:=hK
  obtain ⟨e1,e2,e3,e4⟩:=ho.facts
  refine ⟨_,_,_,hK _ rfl,aV n3 3 fun _ _ K hK=> ?_⟩
  rw [aEJ]
  refine ⟨hg.cells,Br.of (fun _=>⟨w::p,⟨⟨by simp;omega,rfl,sZ hg⟩,rfl,e2,by omega⟩,Br.of (fun _=>⟨l0,⟨⟨rfl,rfl,rfl⟩, ?_⟩, ?_⟩) fun c=>absurd (of_decide_eq_false c) (by rw [aR];omega)⟩) fun c=>absurd c (by have:=ho.ne;simp;omega)⟩
  ·rw [<- bU,e1];have:=ho.len;omega
  ·rw [e1];exact hK
noncomputable def n4 :bT Tryz.prog:=((n3).add 18 cPl aCC).add 17 cLn aE4
end Go.Proofs.YtghnfjfkjhbgdaaGreatDoor
namespace Go.Proofs.YtghnfjfkjhbgdaaGreatDoor
open Go.Se
set_option maxRecDepth 100000
noncomputable abbrev gdF :Func:=Tryz.f16
def gdT :kB:=XZ 9 32++[(3,.junk),(2,.ptr 1 0),(0,.junk),(1,.junk)]
noncomputable def grA :SB:=aGm gdF [1,1,1,1,1,0,1,0] 77 gdT
noncomputable def grB :SB:=aGm gdF [1,1,1,1,1,1,0,1,0] 77 (XZ 46 5++gdT)
def ckR :List (Nat×eR×List ((Nat×List Nat)×Nat)):=[(0,⟨[0,1,2,4],[0,1,2,4,5,6],[0,1,2,3,4,5,6,7,8,9,10],7,[]⟩,[((0,[2,0,1]),6)])]
noncomputable abbrev ckE :Env:=aBV ckR (fun _=>0) n4 3
noncomputable abbrev ckF :Func:=Tryz.f103
noncomputable abbrev ciF :Func:=Tryz.f104
abbrev pgT :TypeId:=51
theorem WP(n:Nat)(f:Nat->Int)(c:Int)(l:List Int)(K:KC):BD ckR (fun _=>0) n4 4 103 [.yld 0,.ptr 4 0,.ptr 5 0] [some grA,some (.cells pgT [.ptr 2 0]),some (.cells sbT [.ptr 2 0,.own 3 0 1 l.length]),some (.row 5 1 l.length (tG l)),some (.cells 25 [.ro n 1 (aP f)]),some (.cells 3 [.int .i64 c])] K=
 (∃q_,bO ckE (bZ ckR 6) ckF [1,0] 0 6 K q_ {tmps:=[(0,SV.yld 0),(1,SV.ptr 4 0),(2,SV.ptr 5 0),(4,SV.int .i64 0)],store:=[(0,some (grA)),(1,some (SB.cells 51 [SV.ptr 2 0])),(2,some (SB.cells 49 [SV.ptr 2 0,SV.own 6 0 1 l.length])),(4,some (SB.cells 25 [SV.ro n 1 (aP f)])),(5,some (SB.cells 3 [SV.int .i64 c])),(6,some (SB.row 5 1 l.length (tG l)))],nxt:=7,dirty:=[0,1,2,3,4,5,6,7,8,9,10],nt:=31}):=by kernel_rfl
theorem aAN(n:Nat)(f:Nat->Int)(c:Int)(l:List Int)(K:KC):BD ckR (fun _=>0) n4 4 104 [.yld 0,.ptr 4 0,.ptr 5 0] [some grB,some (.cells pgT [.ptr 2 0]),some (.cells sbT [.ptr 2 0,.own 3 0 1 l.length]),some (.row 5 1 l.length (tG l)),some (.cells 26 [.ro n 1 (aP f)]),some (.cells 3 [.int .i64 c])] K=
 (∃q_,bO ckE (bZ ckR 6) ciF [1,0] 0 6 K q_ {tmps:=[(0,SV.yld 0),(1,SV.ptr 4 0),(2,SV.ptr 5 0),(4,SV.int .i64 0)],store:=[(0,some (grB)),(1,some (SB.cells 51 [SV.ptr 2 0])),(2,some (SB.cells 49 [SV.ptr 2 0,SV.own 6 0 1 l.length])),(4,some (SB.cells 26 [SV.ro n 1 (aP f)])),(5,some (SB.cells 3 [SV.int .i64 c])),(6,some (SB.row 5 1 l.length (tG l)))],nxt:=7,dirty:=[0,1,2,3,4,5,6,7,8,9,10],nt:=31}):=by kernel_rfl
noncomputable def ckS(r:SB)(T:TypeId)(n:Nat)(f:Nat->Int)(c:Int)(l:List Int)(i:Int):St:=⟨[(0,.yld 0),(1,.ptr 4 0),(2,.ptr 5 0),(4,.int .i64 i)],[(0,some r),(1,some (.cells pgT [.ptr 2 0])),(2,some (.cells sbT [.ptr 2 0,.own 6 0 1 l.length])),(4,some (.cells T [.ro n 1 (aP f)])),(5,some (.cells 3 [.int .i64 c])),(6,some (.row 5 1 l.length (tG l)))],7,[0,1,2,3,4,5,6,7,8,9,10],31⟩
theorem JZ(n:Nat)(f:Nat->Int)(c:Int)(l:List Int)(i:Int)(K:Ex->St->Prop):aF ckE (bZ ckR 6) ckF [1,0] 0 K (ckS grA 25 n f c l i)=
 (Br (decide (i<(↑n:Int))) (Br (decide (0<=i)&&(decide (i<=(↑n:Int))&&decide ((↑n:Int)<=(↑n:Int)))) (Br (decide (0<=i)&&(decide (i<=IntKind.i64.wrap (i+if (↑((↑n:Int).toNat - i.toNat):Int)<c then (↑((↑n:Int).toNat - i.toNat):Int) else c))&&(decide (IntKind.i64.wrap (i+if (↑((↑n:Int).toNat - i.toNat):Int)<c then (↑((↑n:Int).toNat - i.toNat):Int) else c)<=IntKind.i64.wrap (i+if (↑((↑n:Int).toNat - i.toNat):Int)<c then (↑((↑n:Int).toNat - i.toNat):Int) else c))&&decide (IntKind.i64.wrap (i+if (↑((↑n:Int).toNat - i.toNat):Int)<c then (↑((↑n:Int).toNat - i.toNat):Int) else c)<=(↑n:Int))))) (∃(e397:Nat->Int),((fun (i_1:Nat)=>aP f (i_1+i.toNat))=aP e397/\(IntKind.i64.wrap (i+if (↑((↑n:Int).toNat - i.toNat):Int)<c then (↑((↑n:Int).toNat - i.toNat):Int) else c)).toNat - i.toNat<=1048576)/\(∃(e395:List Int),∃(e394:List (List Int)),∃(e393:List Int),(((⟨#[104,101,105,103,104,116,115]⟩:ByteArray)=bytesOf e395/\(IntKind.i64.wrap (i+if (↑((↑n:Int).toNat - i.toNat):Int)<c then (↑((↑n:Int).toNat - i.toNat):Int) else c)).toNat - i.toNat=e394.length/\d7 (aH ((fun (f:Nat->Int) (n:Nat)=>fQ f 0 n) e397 ((IntKind.i64.wrap (i+bif false then if (↑((↑n:Int).toNat - i.toNat):Int)>c then (↑((↑n:Int).toNat - i.toNat):Int) else c else if (↑((↑n:Int).toNat - i.toNat):Int)<c then (↑((↑n:Int).toNat - i.toNat):Int) else c)).toNat - i.toNat))) e394)/\eZ e395 e394/\l.length=e393.length/\l.length=e393.length/\tG l=tG e393/\e393.length<=1073741824)/\(∀(l391:List Int),∀(_:kS l391 e393 e395 e394),K Ex.normal {tmps:=[(0,SV.yld 0),(1,SV.ptr 4 0),(2,SV.ptr 5 0),(4,SV.int .i64 (IntKind.i64.wrap (i+c)))],store:=[(0,some (grA)),(1,some (SB.cells 51 [SV.ptr 2 0])),(2,some (SB.cells 49 [SV.ptr 2 0,SV.own 6 0 1 l391.length])),(4,some (SB.cells 25 [SV.ro n 1 (aP f)])),(5,some (SB.cells 3 [SV.int .i64 c])),(6,some (SB.row 5 1 l391.length (tG l391)))],nxt:=7,dirty:=[0,1,2,3,4,5,6,7,8,9,10],nt:=31}))) (False)) (False)) (K (Ex.exit 0) {tmps:=[(0,SV.yld 0),(1,SV.ptr 4 0),(2,SV.ptr 5 0),(4,SV.int .i64 i)],store:=[(0,some (grA)),(1,some (SB.cells 51 [SV.ptr 2 0])),(2,some (SB.cells 49 [SV.ptr 2 0,SV.own 6 0 1 l.length])),(4,some (SB.cells 25 [SV.ro n 1 (aP f)])),(5,some (SB.cells 3 [SV.int .i64 c])),(6,some (SB.row 5 1 l.length (tG l)))],nxt:=7,dirty:=[0,1,2,3,4,5,6,7,8,9,10],nt:=31})):=by kernel_rfl
theorem J6(n:Nat)(f:Nat->Int)(c:Int)(l:List Int)(i:Int)(K:Ex->St->Prop):aF ckE (bZ ckR 6) ciF [1,0] 0 K (ckS grB 26 n f c l i)=
 (Br (decide (i<(↑n:Int))) (Br (decide (0<=i)&&(decide (i<=(↑n:Int))&&decide ((↑n:Int)<=(↑n:Int)))) (Br (decide (0<=i)&&(decide (i<=IntKind.i64.wrap (i+if (↑((↑n:Int).toNat - i.toNat):Int)<c then (↑((↑n:Int).toNat - i.toNat):Int) else c))&&(decide (IntKind.i64.wrap (i+if (↑((↑n:Int).toNat - i.toNat):Int)<c then (↑((↑n:Int).toNat - i.toNat):Int) else c)<=IntKind.i64.wrap (i+if (↑((↑n:Int).toNat - i.toNat):Int)<c then (↑((↑n:Int).toNat - i.toNat):Int) else c))&&decide (IntKind.i64.wrap (i+if (↑((↑n:Int).toNat - i.toNat):Int)<c then (↑((↑n:Int).toNat - i.toNat):Int) else c)<=(↑n:Int))))) (∃(e397:Nat->Int),((fun (i_1:Nat)=>aP f (i_1+i.toNat))=aP e397/\(IntKind.i64.wrap (i+if (↑((↑n:Int).toNat - i.toNat):Int)<c then (↑((↑n:Int).toNat - i.toNat):Int) else c)).toNat - i.toNat<=1048576)/\(∃(e395:List Int),∃(e394:List (List Int)),∃(e393:List Int),(((⟨#[103,114,111,117,110,100]⟩:ByteArray)=bytesOf e395/\(IntKind.i64.wrap (i+if (↑((↑n:Int).toNat - i.toNat):Int)<c then (↑((↑n:Int).toNat - i.toNat):Int) else c)).toNat - i.toNat=e394.length/\d7 (aH ((fun (f:Nat->Int) (n:Nat)=>fO f 0 n) e397 ((IntKind.i64.wrap (i+bif false then if (↑((↑n:Int).toNat - i.toNat):Int)>c then (↑((↑n:Int).toNat - i.toNat):Int) else c else if (↑((↑n:Int).toNat - i.toNat):Int)<c then (↑((↑n:Int).toNat - i.toNat):Int) else c)).toNat - i.toNat))) e394)/\eZ e395 e394/\l.length=e393.length/\l.length=e393.length/\tG l=tG e393/\e393.length<=1073741824)/\(∀(l391:List Int),∀(_:kS l391 e393 e395 e394),K Ex.normal {tmps:=[(0,SV.yld 0),(1,SV.ptr 4 0),(2,SV.ptr 5 0),(4,SV.int .i64 (IntKind.i64.wrap (i+c)))],store:=[(0,some (grB)),(1,some (SB.cells 51 [SV.ptr 2 0])),(2,some (SB.cells 49 [SV.ptr 2 0,SV.own 6 0 1 l391.length])),(4,some (SB.cells 26 [SV.ro n 1 (aP f)])),(5,some (SB.cells 3 [SV.int .i64 c])),(6,some (SB.row 5 1 l391.length (tG l391)))],nxt:=7,dirty:=[0,1,2,3,4,5,6,7,8,9,10],nt:=31}))) (False)) (False)) (K (Ex.exit 0) {tmps:=[(0,SV.yld 0),(1,SV.ptr 4 0),(2,SV.ptr 5 0),(4,SV.int .i64 i)],store:=[(0,some (grB)),(1,some (SB.cells 51 [SV.ptr 2 0])),(2,some (SB.cells 49 [SV.ptr 2 0,SV.own 6 0 1 l.length])),(4,some (SB.cells 26 [SV.ro n 1 (aP f)])),(5,some (SB.cells 3 [SV.int .i64 c])),(6,some (SB.row 5 1 l.length (tG l)))],nxt:=7,dirty:=[0,1,2,3,4,5,6,7,8,9,10],nt:=31})):=by kernel_rfl
theorem aAK(n:Nat)(f:Nat->Int)(c:Int)(l:List Int)(i:Int)(K:KC):aE ckE (bZ ckR 6) ckF [1,0] 6 K (.exit 0) (ckS grA 25 n f c l i)=
 (K (SV.tup []) [some (grA),some (SB.cells 51 [SV.ptr 2 0]),some (SB.cells 49 [SV.ptr 2 0,SV.own 6 0 1 l.length]),none,some (SB.cells 25 [SV.ro n 1 (aP f)]),some (SB.cells 3 [SV.int .i64 c]),some (SB.row 5 1 l.length (tG l))] [0,1,2,3,4,5]):=by kernel_rfl
theorem W2(n:Nat)(f:Nat->Int)(c:Int)(l:List Int)(i:Int)(K:KC):aE ckE (bZ ckR 6) ciF [1,0] 6 K (.exit 0) (ckS grB 26 n f c l i)=
 (K (SV.tup []) [some (grB),some (SB.cells 51 [SV.ptr 2 0]),some (SB.cells 49 [SV.ptr 2 0,SV.own 6 0 1 l.length]),none,some (SB.cells 26 [SV.ro n 1 (aP f)]),some (SB.cells 3 [SV.int .i64 c]),some (SB.row 5 1 l.length (tG l))] [0,1,2,3,4,5]):=by kernel_rfl
theorem aFt (m k:Nat) (f:Nat->Int) (l0:List Int) (hm:1<=m/\m<=65) (hk:k<=65) (hl:l0.length<=100000000) (K:KC)
  (hK: ∀l:List Int,l=l0++bK (xB f m) 0 k->K (.tup []) [some grA,some (.cells pgT [.ptr 2 0]),some (.cells sbT [.ptr 2 0,.own 6 0 1 l.length]),none,some (.cells 25 [.ro (k*m) 1 (aP f)]),some (.cells 3 [.int .i64 m]),some (.row 5 1 l.length (tG l))] [0,1,2,3,4,5]):
  BD ckR (fun _=>0) n4 4 103 [.yld 0,.ptr 4 0,.ptr 5 0] [some grA,some (.cells pgT [.ptr 2 0]),some (.cells sbT [.ptr 2 0,.own 3 0 1 l0.length]),some (.row 5 1 l0.length (tG l0)),some (.cells 25 [.ro (k*m) 1 (aP f)]),some (.cells 3 [.int .i64 m])] K:=by
 have hkm:k*m<=65*65:=Nat.mul_le_mul hk hm.2
 rw [WP]
 refine ⟨k+1, ?_⟩
 show iter (aF ckE (bZ ckR 6) ckF [1,0] 0) (aE ckE (bZ ckR 6) ckF [1,0] 6 K) (k+1) (ckS grA 25 (k*m) f m l0 ((0:Nat):Int))
 have key:=gV (env:=ckE) (W:=bZ ckR 6) (fn:=ckF) (path:=[1,0]) (blk:=0) (KK:=aE ckE (bZ ckR 6) ckF [1,0] 6 K) (fun a:Nat×List Int=>ckS grA 25 (k*m) f m a.2 ((a.1*m:Nat):Int)) (fun a=>k - a.1) (fun a=>a.1<=k/\a.2=l0++bK (xB f m) 0 a.1) ?_ (k+1) (0,l0) ⟨Nat.zero_le _,by show l0=l0++[];rw [List.append_nil]⟩ (by show k - 0<k+1;omega)
 ·rw [show 0*m=0 from Nat.zero_mul m] at key
  exact key
 rintro ⟨j,l⟩ ⟨h1,h2⟩ X hX
 simp only at h1 h2 hX|-
 by_cases hj:j<k
 ·have hle:(j+1)*m<=k*m:=Nat.mul_le_mul_right m hj
  rw [Nat.add_mul,Nat.one_mul] at hle
  have hnext:=hX (j+1,l++xB f m j) ⟨hj,by rw [h2,List.append_assoc,jK,Nat.zero_add]⟩ (by show k - (j+1)<k - j;omega)
  simp only [Nat.add_mul,Nat.one_mul] at hnext
  have hll:l.length<=100325000:=by
   rw [h2,List.length_append]
   have:=iG (f:=xB f m) (B:=5000) (fun i=>DP (f:=f) (r:=i) hm.2) j 0
   omega
  have hH:xB f m j=lnW gQ (fQ f (j*m) m):=rfl
  rw [hH] at hnext
  generalize j*m=a at*
  generalize k*m=n at*
  have e:(if (((n - a:Nat):Nat):Int)<(m:Int) then (((n - a:Nat):Nat):Int) else (m:Int))=(m:Int):=if_neg (by omega)
  have hw:IntKind.i64.wrap ((a:Int)+(m:Int))=((a+m:Nat):Int):=by rw [gY];omega
  rw [JZ]
  simp only [Int.toNat_natCast,cond_false,e,hw,Nat.add_sub_cancel_left]
  refine Br.of (fun _=>Br.of (fun _=>Br.of (fun _=>⟨fun i=>f (i+a),⟨rfl,by omega⟩,gQ,fQ f a m,l,⟨⟨rfl,(kR f a m).symm, ?_⟩,dY (cC rfl) (BJ f a m) (by rw [kR];omega) (by rw [kR];omega),rfl,rfl,rfl,by omega⟩,fun l' hg=> ?_⟩) fun c=>absurd c (by simp;omega)) fun c=>absurd c (by simp;omega)) fun c=>nF (by omega) c
  ·rw [VU];exact fF _
  ·unfold kS at hg
   rw [hg];exact hnext
 ·obtain rfl:j=k:=by omega
  rw [JZ]
  refine Br.of (fun c=>mD c) fun _=> ?_
  show aE ckE (bZ ckR 6) ckF [1,0] 6 K (.exit 0) (ckS grA 25 (j*m) f m l ((j*m:Nat):Int))
  rw [aAK];exact hK l h2
theorem aEF (m k:Nat) (f:Nat->Int) (l0:List Int) (hm:1<=m/\m<=65) (hk:k<=65) (hl:l0.length<=100000000) (K:KC)
  (hK: ∀l:List Int,l=l0++bK (xY f m) 0 k->K (.tup []) [some grB,some (.cells pgT [.ptr 2 0]),some (.cells sbT [.ptr 2 0,.own 6 0 1 l.length]),none,some (.cells 26 [.ro (k*m) 1 (aP f)]),some (.cells 3 [.int .i64 m]),some (.row 5 1 l.length (tG l))] [0,1,2,3,4,5]):
  BD ckR (fun _=>0) n4 4 104 [.yld 0,.ptr 4 0,.ptr 5 0] [some grB,some (.cells pgT [.ptr 2 0]),some (.cells sbT [.ptr 2 0,.own 3 0 1 l0.length]),some (.row 5 1 l0.length (tG l0)),some (.cells 26 [.ro (k*m) 1 (aP f)]),some (.cells 3 [.int .i64 m])] K:=by
 have hkm:k*m<=65*65:=Nat.mul_le_mul hk hm.2
 rw [aAN]
 refine ⟨k+1, ?_⟩
 show iter (aF ckE (bZ ckR 6) ciF [1,0] 0) (aE ckE (bZ ckR 6) ciF [1,0] 6 K) (k+1) (ckS grB 26 (k*m) f m l0 ((0:Nat):Int))
 have key:=gV (env:=ckE) (W:=bZ ckR 6) (fn:=ciF) (path:=[1,0]) (blk:=0) (KK:=aE ckE (bZ ckR 6) ciF [1,0] 6 K) (fun a:Nat×List Int=>ckS grB 26 (k*m) f m a.2 ((a.1*m:Nat):Int)) (fun a=>k - a.1) (fun a=>a.1<=k/\a.2=l0++bK (xY f m) 0 a.1) ?_ (k+1) (0,l0) ⟨Nat.zero_le _,by show l0=l0++[];rw [List.append_nil]⟩ (by show k - 0<k+1;omega)
 ·rw [show 0*m=0 from Nat.zero_mul m] at key
  exact key
 rintro ⟨j,l⟩ ⟨h1,h2⟩ X hX
 simp only at h1 h2 hX|-
 by_cases hj:j<k
 ·have hle:(j+1)*m<=k*m:=Nat.mul_le_mul_right m hj
  rw [Nat.add_mul,Nat.one_mul] at hle
  have hnext:=hX (j+1,l++xY f m j) ⟨hj,by rw [h2,List.append_assoc,jK,Nat.zero_add]⟩ (by show k - (j+1)<k - j;omega)
  simp only [Nat.add_mul,Nat.one_mul] at hnext
  have hll:l.length<=100325000:=by
   rw [h2,List.length_append]
   have:=iG (f:=xY f m) (B:=5000) (fun i=>CD (f:=f) (r:=i) hm.2) j 0
   omega
  have hH:xY f m j=lnW iP (fO f (j*m) m):=rfl
  rw [hH] at hnext
  generalize j*m=a at*
  generalize k*m=n at*
  have e:(if (((n - a:Nat):Nat):Int)<(m:Int) then (((n - a:Nat):Nat):Int) else (m:Int))=(m:Int):=if_neg (by omega)
  have hw:IntKind.i64.wrap ((a:Int)+(m:Int))=((a+m:Nat):Int):=by rw [gY];omega
  rw [J6]
  simp only [Int.toNat_natCast,cond_false,e,hw,Nat.add_sub_cancel_left]
  refine Br.of (fun _=>Br.of (fun _=>Br.of (fun _=>⟨fun i=>f (i+a),⟨rfl,by omega⟩,iP,fO f a m,l,⟨⟨rfl,(kO f a m).symm, ?_⟩,dY (cC rfl) (C5 f a m) (by rw [kO];omega) (by rw [kO];omega),rfl,rfl,rfl,by omega⟩,fun l' hg=> ?_⟩) fun c=>absurd c (by simp;omega)) fun c=>absurd c (by simp;omega)) fun c=>nF (by omega) c
  ·rw [UY];exact fF _
  ·unfold kS at hg
   rw [hg];exact hnext
 ·obtain rfl:j=k:=by omega
  rw [J6]
  refine Br.of (fun c=>mD c) fun _=> ?_
  show aE ckE (bZ ckR 6) ciF [1,0] 6 K (.exit 0) (ckS grB 26 (j*m) f m l ((j*m:Nat):Int))
  rw [W2];exact hK l h2
def cCh(r:SB)(T:TypeId)(H:(Nat->Int)->Nat->Nat->List Int):List SV->List (Option SB)->KC->Prop
 | [.yld 0,.ptr 4 0,.ptr 5 0],[some r',some (.cells 51 [.ptr 2 0]),some (.cells 49 [.ptr 2 0,.own 3 0 1 a]),some (.row 5 1 a' h),some (.cells t [.ro n 1 g]),some (.cells 3 [.int .i64 c])],K=>
  ∃(m k:Nat) (f:Nat->Int) (l0:List Int),((r'=r/\t=T/\a=l0.length/\a'=l0.length/\h=tG l0/\g=aP f/\c=m/\n=k*m)/\(1<=m/\m<=65)/\k<=65/\l0.length<=100000000)/\
   ∀l:List Int,jV l l0 (bK (H f m) 0 k)->K (.tup []) [some r,some (.cells 51 [.ptr 2 0]),some (.cells 49 [.ptr 2 0,.own 6 0 1 l.length]),none,some (.cells T [.ro n 1 g]),some (.cells 3 [.int .i64 m]),some (.row 5 1 l.length (tG l))] [0,1,2,3,4,5]
 |_,_,_=>False
theorem aFj(xs:List SV)(σ:List (Option SB)):Sat Tryz.prog 103 xs σ (cCh grA 25 xB xs σ):=by
 intro K hK
 unfold cCh at hK
 split at hK
 case h_2=>exact hK.elim
 obtain ⟨m,k,f,l0,⟨⟨rfl,rfl,rfl,rfl,rfl,rfl,rfl,rfl⟩,h1,h2,h3⟩,hK⟩:=hK
 refine ⟨_,_,_,hK _ rfl,zQ ckR (fun _=>0) n4 4 (fun p h=> ?_) fun _ _ K hK=>aFt m k f l0 h1 h2 h3 K fun l hl=> ?_⟩
 ·show p<6
  simp only [List.mem_cons,List.not_mem_nil,or_false] at h
  omega
 ·rw [hl];exact hK _ fun _ h=>h
theorem aEN(xs:List SV)(σ:List (Option SB)):Sat Tryz.prog 104 xs σ (cCh grB 26 xY xs σ):=by
 intro K hK
 unfold cCh at hK
 split at hK
 case h_2=>exact hK.elim
 obtain ⟨m,k,f,l0,⟨⟨rfl,rfl,rfl,rfl,rfl,rfl,rfl,rfl⟩,h1,h2,h3⟩,hK⟩:=hK
 refine ⟨_,_,_,hK _ rfl,zQ ckR (fun _=>0) n4 4 (fun p h=> ?_) fun _ _ K hK=>aEF m k f l0 h1 h2 h3 K fun l hl=> ?_⟩
 ·show p<6
  simp only [List.mem_cons,List.not_mem_nil,or_false] at h
  omega
 ·rw [hl];exact hK _ fun _ h=>h
noncomputable def n5 :bT Tryz.prog:=((n4).add 103 (cCh grA 25 xB) aFj).add 104 (cCh grB 26 xY) aEN
end Go.Proofs.YtghnfjfkjhbgdaaGreatDoor
namespace Go.Proofs.YtghnfjfkjhbgdaaGreatDoor
open Go.Se
set_option maxRecDepth 100000
def gnR :List (Nat×eR×List ((Nat×List Nat)×Nat)):=[(4,⟨[2,57,58,59],[0,1,3],[0,1,2,3,4,5,6,7,8,9,10,11,12,13,14,15,16,17,18,19,20,21,22,23,24,25,26,27,28,29,30],4,[]⟩,[((2,[0,1]),3)])]
noncomputable abbrev gnE :Env:=aBV gnR (fun _=>0) n5 3
abbrev gnP :List Nat:=[1,1,1,1,1,1,1,1,0]
theorem aAp(t:Trk)(K:KC):BD gnR (fun _=>0) n5 4 16 [.agg [.ptr 0 0],.agg (aM t)] [some (.cells sbT [.nilp,.nils])] K=
 (∃(e400:List Int),∃(e399:List (List Int)),(((⟨#[114,97,116,101]⟩:ByteArray)=bytesOf e400/\1=e399.length/\1=1/\d7 (aH [aJ t.rate]) e399)/\eZ e400 e399)/\(∀(l397:List Int),∀(_:kS l397 [] e400 e399),∃(e395:List Int),∃(e394:List (List Int)),∃(e393:List Int),(((⟨#[99,101,108,108]⟩:ByteArray)=bytesOf e395/\1=e394.length/\1=1/\d7 (aH [aC t.cell]) e394)/\eZ e395 e394/\l397.length=e393.length/\l397.length=e393.length/\tG l397=tG e393/\e393.length<=1073741824)/\(∀(l391:List Int),∀(_:kS l391 e393 e395 e394),∃(e389:List Int),∃(e388:List (List Int)),∃(e387:List Int),(((⟨#[115,105,122,101]⟩:ByteArray)=bytesOf e389/\2=e388.length/\2=2/\d7 (aH [aJ t.cols,aJ t.rows]) e388)/\eZ e389 e388/\l391.length=e387.length/\l391.length=e387.length/\tG l391=tG e387/\e387.length<=1073741824)/\(∀(l385:List Int),∀(_:kS l385 e387 e389 e388),∃(e383:List Int),∃(e382:List (List Int)),∃(e381:List Int),(((⟨#[99,111,114,110,101,114]⟩:ByteArray)=bytesOf e383/\2=e382.length/\2=2/\d7 (aH [aC t.cx,aC t.cy]) e382)/\eZ e383 e382/\l385.length=e381.length/\l385.length=e381.length/\tG l385=tG e381/\e381.length<=1073741824)/\(∀(l379:List Int),∀(_:kS l379 e381 e383 e382),Br (decide (IntKind.i64.wrap (t.cols+1)<1)) (False) (∃(e376:Nat),∃(e375:Nat),∃(e374:Nat->Int),∃(e373:List Int),((grA=grA/\25=25/\l379.length=e373.length/\l379.length=e373.length/\tG l379=tG e373/\aP t.h=aP e374/\IntKind.i64.wrap (t.cols+1)=(↑e376:Int)/\t.nh=e375*e376)/\(1<=e376/\e376<=65)/\e375<=65/\e373.length<=100000000)/\(∀(l371:List Int),∀(_:jV l371 e373 (bK (xB e374 e376) 0 e375)),Br (decide (t.cols<1)) (False) (∃(e368:Nat),∃(e367:Nat),∃(e366:Nat->Int),∃(e365:List Int),((grB=grB/\26=26/\l371.length=e365.length/\l371.length=e365.length/\tG l371=tG e365/\aP t.g=aP e366/\t.cols=(↑e368:Int)/\t.ng=e367*e368)/\(1<=e368/\e368<=65)/\e367<=65/\e365.length<=100000000)/\(∀(l363:List Int),∀(_:jV l363 e365 (bK (xY e366 e368) 0 e367)),∃q_,bO gnE (bZ gnR 1) gdF gnP 4 1 K q_ {tmps:=[(2,SV.ptr 1 0),(57,SV.ro t.nk 3 (eY t)),(58,SV.int .i64 (↑t.nk:Int)),(59,SV.int .i64 0)],store:=[(0,some (SB.cells 49 [SV.ptr 0 0,SV.own 3 0 1 l363.length])),(1,some (SB.cells 51 [SV.ptr 0 0])),(3,some (SB.row 5 1 l363.length (tG l363)))],nxt:=4,dirty:=[0,1,2,3,4,5,6,7,8,9,10,11,12,13,14,15,16,17,18,19,20,21,22,23,24,25,26,27,28,29,30],nt:=77}))))))))):=by kernel_rfl
def gnS(t:Trk)(l:List Int)(i:Int):St:=⟨[(2,.ptr 1 0),(57,.ro t.nk 3 (eY t)),(58,.int .i64 t.nk),(59,.int .i64 i)],[(0,some (.cells sbT [.ptr 0 0,.own 3 0 1 l.length])),(1,some (.cells pgT [.ptr 0 0])),(3,some (.row 5 1 l.length (tG l)))],4,[0,1,2,3,4,5,6,7,8,9,10,11,12,13,14,15,16,17,18,19,20,21,22,23,24,25,26,27,28,29,30],77⟩
theorem K1(t:Trk)(l:List Int)(i:Nat)(K:Ex->St->Prop):aF gnE (bZ gnR 1) gdF gnP 4 K (gnS t l i)=
 (Br (decide ((↑i:Int)<(↑t.nk:Int))) (Br (decide (0<=(↑i:Int))&&decide ((↑i:Int)<(↑t.nk:Int))) (Br (t.ko (↑i:Int).toNat) (∃(e397:List Int),∃(e396:List (List Int)),∃(e395:List Int),(((⟨#[107,105,110,100]⟩:ByteArray)=bytesOf e397/\3=e396.length/\3=3/\d7 (bI 2 [SV.str (⟨#[111,102,102]⟩:ByteArray)] (aH [aC (t.kg (↑i:Int).toNat),aC (t.kd (↑i:Int).toNat)])) e396)/\eZ e397 e396/\l.length=e395.length/\l.length=e395.length/\tG l=tG e395/\e395.length<=1073741824)/\(∀(l393:List Int),∀(_:kS l393 e395 e397 e396),K Ex.normal {tmps:=[(2,SV.ptr 1 0),(57,SV.ro t.nk 3 (eY t)),(58,SV.int .i64 (↑t.nk:Int)),(59,SV.int .i64 (IntKind.i64.wrap ((↑i:Int)+1)))],store:=[(0,some (SB.cells 49 [SV.ptr 0 0,SV.own 3 0 1 l393.length])),(1,some (SB.cells 51 [SV.ptr 0 0])),(3,some (SB.row 5 1 l393.length (tG l393)))],nxt:=4,dirty:=[0,1,2,3,4,5,6,7,8,9,10,11,12,13,14,15,16,17,18,19,20,21,22,23,24,25,26,27,28,29,30],nt:=77})) (∃(e397:List Int),∃(e396:List (List Int)),∃(e395:List Int),(((⟨#[107,105,110,100]⟩:ByteArray)=bytesOf e397/\3=e396.length/\3=3/\d7 (bI 2 [SV.str (⟨#[111,110]⟩:ByteArray)] (aH [aC (t.kg (↑i:Int).toNat),aC (t.kd (↑i:Int).toNat)])) e396)/\eZ e397 e396/\l.length=e395.length/\l.length=e395.length/\tG l=tG e395/\e395.length<=1073741824)/\(∀(l393:List Int),∀(_:kS l393 e395 e397 e396),K Ex.normal {tmps:=[(2,SV.ptr 1 0),(57,SV.ro t.nk 3 (eY t)),(58,SV.int .i64 (↑t.nk:Int)),(59,SV.int .i64 (IntKind.i64.wrap ((↑i:Int)+1)))],store:=[(0,some (SB.cells 49 [SV.ptr 0 0,SV.own 3 0 1 l393.length])),(1,some (SB.cells 51 [SV.ptr 0 0])),(3,some (SB.row 5 1 l393.length (tG l393)))],nxt:=4,dirty:=[0,1,2,3,4,5,6,7,8,9,10,11,12,13,14,15,16,17,18,19,20,21,22,23,24,25,26,27,28,29,30],nt:=77}))) (False)) (K (Ex.exit 4) {tmps:=[(2,SV.ptr 1 0),(57,SV.ro t.nk 3 (eY t)),(58,SV.int .i64 (↑t.nk:Int)),(59,SV.int .i64 (↑i:Int))],store:=[(0,some (SB.cells 49 [SV.ptr 0 0,SV.own 3 0 1 l.length])),(1,some (SB.cells 51 [SV.ptr 0 0])),(3,some (SB.row 5 1 l.length (tG l)))],nxt:=4,dirty:=[0,1,2,3,4,5,6,7,8,9,10,11,12,13,14,15,16,17,18,19,20,21,22,23,24,25,26,27,28,29,30],nt:=77})):=by kernel_rfl
theorem WD(t:Trk)(l:List Int)(i:Nat)(K:KC):aE gnE (bZ gnR 1) gdF gnP 1 K (.exit 4) (gnS t l i)=
 (K (SV.tup []) [some (SB.cells 49 [SV.ptr 0 0,SV.own 1 0 1 l.length]),some (SB.row 5 1 l.length (tG l))] [0]):=by kernel_rfl
theorem aBr (t:Trk) (b0:List Int) (hk:t.nk<=8) (hb:b0.length<=1000000) (K:KC)
  (hK: ∀l:List Int,jV l b0 (bK (CR t) 0 t.nk)->K (.tup []) [some (.cells sbT [.ptr 0 0,.own 1 0 1 l.length]),some (.row 5 1 l.length (tG l))] [0]):
  bO gnE (bZ gnR 1) gdF gnP 4 1 K (t.nk+1) (gnS t b0 ((0:Nat):Int)):=by
 show iter (aF gnE (bZ gnR 1) gdF gnP 4) (aE gnE (bZ gnR 1) gdF gnP 1 K) (t.nk+1) (gnS t b0 ((0:Nat):Int))
 refine gV (fun a:Nat×List Int=>gnS t a.2 (a.1:Int)) (fun a=>t.nk - a.1) (fun a=>(a.1<=t.nk/\a.2=b0++bK (CR t) 0 a.1)/\a.2.length<=1000000+200*a.1) ?_ (t.nk+1) (0,b0) ⟨⟨Nat.zero_le _,by show b0=b0++[];rw [List.append_nil]⟩,hb⟩ (by show t.nk - 0<t.nk+1;omega)
 rintro ⟨i,l⟩ ⟨⟨h1,h2⟩,h3⟩ X hX
 simp only at h1 h2 h3 hX|-
 by_cases hi:i<t.nk
 ·have hok:dW [aC (t.kg i),aC (t.kd i),onW (t.ko i)]:=aL (fA _) (aL (fA _) (aL (aAb _) dR))
  have hnext: ∀l':List Int,kS l' l iK [aC (t.kg i),aC (t.kd i),onW (t.ko i)]->X (gnS t l' ((i+1:Nat):Int)):=fun l' hg=>by
   have hl:=lN hg hok
   rw [show iK.length=4 from rfl] at hl
   simp only [List.length_cons,List.length_nil] at hl
   refine hX (i+1,l') ⟨⟨hi, ?_⟩,by show l'.length<=1000000+200*(i+1);omega⟩ (by show t.nk - (i+1)<t.nk - i;omega)
   unfold kS at hg
   rw [hg,h2,List.append_assoc,jK,Nat.zero_add];rfl
  rw [K1,aO hi (by omega),Int.toNat_natCast]
  refine Br.of (fun _=>Br.of (fun _=>Br.of (fun c=> ?_) fun c=> ?_) fun c=>nH hi c) fun c=>nF hi c
  ·rw [c] at hok hnext
   exact ⟨iK,[aC (t.kg i),aC (t.kd i),onW true],l,⟨⟨rfl,rfl,rfl,aFc (c:=onW true)⟩,dY (cC rfl) hok (Nat.succ_pos _) (by simp),rfl,rfl,rfl,by omega⟩,fun l' hg=>hnext l' hg⟩
  ·rw [c] at hok hnext
   exact ⟨iK,[aC (t.kg i),aC (t.kd i),onW false],l,⟨⟨rfl,rfl,rfl,aFc (c:=onW false)⟩,dY (cC rfl) hok (Nat.succ_pos _) (by simp),rfl,rfl,rfl,by omega⟩,fun l' hg=>hnext l' hg⟩
 ·obtain rfl:i=t.nk:=by omega
  rw [K1]
  refine Br.of (fun c=>mD c) fun _=> ?_
  show aE gnE (bZ gnR 1) gdF gnP 1 K (.exit 4) (gnS t l (t.nk:Nat))
  rw [WD];exact hK l h2
theorem aDU (t:Trk) (h:YR t) (K:KC)
  (hK: ∀l:List Int,jV l [] (tB t)->K (.tup []) [some (.cells sbT [.ptr 0 0,.own 1 0 1 l.length]),some (.row 5 1 l.length (tG l))] [0]):
  BD gnR (fun _=>0) n5 4 16 [.agg [.ptr 0 0],.agg (aM t)] [some (.cells sbT [.nilp,.nils])] K:=by
 obtain ⟨⟨a1,a2⟩,⟨a3,a4⟩,a5,a6,a7⟩:=h
 have w1:IntKind.i64.wrap (t.cols+1)=t.cols+1:=by rw [gY];omega
 have k1:dW [aJ t.rate]:=aL (u3 _) dR
 have k2:dW [aC t.cell]:=aL (fA _) dR
 have k3:dW [aJ t.cols,aJ t.rows]:=aL (u3 _) (aL (u3 _) dR)
 have k4:dW [aC t.cx,aC t.cy]:=aL (fA _) (aL (fA _) dR)
 rw [aAp]
 refine ⟨rN,_,⟨⟨rfl,rfl,rfl,fF _⟩,dY (cC rfl) k1 (Nat.succ_pos _) (by simp)⟩,fun l1 g1=> ?_⟩
 have e1:=lN g1 k1
 rw [show rN.length=4 from rfl] at e1
 simp only [List.length_cons,List.length_nil] at e1
 refine ⟨rK,_,l1,⟨⟨rfl,rfl,rfl,fF _⟩,dY (cC rfl) k2 (Nat.succ_pos _) (by simp),rfl,rfl,rfl,by omega⟩,fun l2 g2=> ?_⟩
 have e2:=lN g2 k2
 rw [show rK.length=4 from rfl] at e2
 simp only [List.length_cons,List.length_nil] at e2
 refine ⟨nM,_,l2,⟨⟨rfl,rfl,rfl,fF _⟩,dY (cC rfl) k3 (Nat.succ_pos _) (by simp),rfl,rfl,rfl,by omega⟩,fun l3 g3=> ?_⟩
 have e3:=lN g3 k3
 rw [show nM.length=4 from rfl] at e3
 simp only [List.length_cons,List.length_nil] at e3
 refine ⟨j0,_,l3,⟨⟨rfl,rfl,rfl,fF _⟩,dY (cC rfl) k4 (Nat.succ_pos _) (by simp),rfl,rfl,rfl,by omega⟩,fun l4 g4=> ?_⟩
 have e4:=lN g4 k4
 rw [show j0.length=6 from rfl] at e4
 simp only [List.length_cons,List.length_nil] at e4
 rw [w1]
 refine Br.of (fun c=>absurd (of_decide_eq_true c) (by omega)) fun _=> ?_
 refine ⟨(t.cols+1).toNat,(t.rows+1).toNat,t.h,l4,⟨⟨rfl,rfl,rfl,rfl,rfl,rfl,by omega,a5⟩,by omega,by omega,by omega⟩,fun l5 g5=> ?_⟩
 have e5:l5.length<=l4.length+65*5000:=by
  unfold jV at g5
  rw [g5,List.length_append]
  have:=iG (f:=xB t.h (t.cols+1).toNat) (B:=5000) (fun i=>DP (f:=t.h) (r:=i) (by omega)) (t.rows+1).toNat 0
  omega
 refine Br.of (fun c=>absurd (of_decide_eq_true c) (by omega)) fun _=> ?_
 refine ⟨t.cols.toNat,t.rows.toNat,t.g,l5,⟨⟨rfl,rfl,rfl,rfl,rfl,rfl,by omega,a6⟩,by omega,by omega,by omega⟩,fun l6 g6=> ?_⟩
 have e6:l6.length<=l5.length+65*5000:=by
  unfold jV at g6
  rw [g6,List.length_append]
  have:=iG (f:=xY t.g t.cols.toNat) (B:=5000) (fun i=>CD (f:=t.g) (r:=i) (by omega)) t.rows.toNat 0
  omega
 refine ⟨t.nk+1,aBr t l6 a7 (by omega) K fun l g=>hK l ?_⟩
 unfold kS at g1 g2 g3 g4
 unfold jV at g5 g6 g|-
 rw [g,g6,g5,g4,g3,g2,g1]
 rfl
def cGn :List SV->List (Option SB)->KC->Prop
 | [.agg [.ptr 0 0],.agg cs],[some (.cells 49 [.nilp,.nils])],K=> ∃t:Trk,(cs=aM t/\YR t)/\ ∀l:List Int,jV l [] (tB t)->K (.tup []) [some (.cells 49 [.ptr 0 0,.own 1 0 1 l.length]),some (.row 5 1 l.length (tG l))] [0]
 |_,_,_=>False
theorem aEs(xs:List SV)(σ:List (Option SB)):Sat Tryz.prog 16 xs σ (cGn xs σ):=by
 intro K hK
 unfold cGn at hK
 split at hK
 case h_2=>exact hK.elim
 obtain ⟨t,⟨rfl,h⟩,hK⟩:=hK
 refine ⟨_,_,_,hK _ rfl,zQ gnR (fun _=>0) n5 4 (fun p h=> ?_) fun _ _ K hK=>aDU t h K fun l hl=> ?_⟩
 ·show p<1
  simp only [List.mem_cons,List.not_mem_nil,or_false] at h
  omega
 ·rw [hl];exact hK _ fun _ h=>h
noncomputable def n6 :bT Tryz.prog:=(n5).add 16 cGn aEs
end Go.Proofs.YtghnfjfkjhbgdaaGreatDoor
namespace Go.Proofs.YtghnfjfkjhbgdaaGreatDoor
open Go.Se
set_option maxRecDepth 100000
theorem J8(a b:Int)(K:KC):run k8 2 186 [.agg [.int .i64 a,.int .u64 b]] [] K=
  Br (a==0&&b==0) (K (.int .i64 0) [] []) (K (.int .i64 (IntKind.i64.wrap ((BitVec.ofInt IntKind.i64.bits (mJ a 0)|||BitVec.ofInt IntKind.i64.bits 1).toNat:Nat))) [] []):=by kernel_rfl
theorem gM(a b:Int):aD Tryz.prog 186 [.agg [.int .i64 a,.int .u64 b]] [] (.int .i64 (mJ (wv a b) 0)) [] []:=
 aV k8 2 fun ⟨⟨_,hb,_⟩,_⟩ _ K hK=>by
  have hb':0<=b/\b<=18446744073709551615:=hb
  rw [J8]
  unfold mJ at hK|-
  refine Br.of (fun c=> ?_) fun c=> ?_
  ·simp only [Bool.and_eq_true,beq_iff_eq] at c
   obtain ⟨rfl,rfl⟩:=c
   exact hK
  ·simp only [Bool.and_eq_false_iff,beq_eq_false_iff_ne] at c
   cases h:decide (a<0)
   ·have h':=of_decide_eq_false h
    rw [decide_eq_false (show¬wv a b<0 by unfold wv;omega),decide_eq_true (show 0<wv a b by unfold wv;omega)] at hK
    cases h2:decide (0<a)<;>exact hK
   ·have h':=of_decide_eq_true h
    rw [decide_eq_true (show wv a b<0 by unfold wv;omega)] at hK
    exact fin hK (by kernel_rfl)
def ZW :List SV->List (Option SB)->Out
 | [.agg [.int .i64 a,.int .u64 b]],[]=>some (.int .i64 (mJ (wv a b) 0),[],[])
 |_,_=>none
noncomputable def p1 :bT Tryz.prog:=((((k8).add 186 (one ZW) (bD fun xs σ v σ' d h=>by
  unfold ZW at h;split at h<;>cases h;first|exact gM|exact gM _|exact gM _ _|exact gM _ _ _|exact gM _ _ _ _|exact gM _ _ _ _ _|exact gM _ _ _ _ _ _|exact gM _ _ _ _ _ _ _|exact gM _ _ _ _ _ _ _ _|exact gM _ _ _ _ _ _ _ _ _|exact gM _ _ _ _ _ _ _ _ _ _|exact gM _ _ _ _ _ _ _ _ _ _ _)).add 151 (one VV) (bD fun xs σ v σ' d h=>by
  unfold VV at h;split at h<;>cases h;first|exact cO|exact cO _|exact cO _ _|exact cO _ _ _|exact cO _ _ _ _|exact cO _ _ _ _ _|exact cO _ _ _ _ _ _|exact cO _ _ _ _ _ _ _|exact cO _ _ _ _ _ _ _ _|exact cO _ _ _ _ _ _ _ _ _|exact cO _ _ _ _ _ _ _ _ _ _|exact cO _ _ _ _ _ _ _ _ _ _ _)).add 169 (one SF) (bD fun xs σ v σ' d h=>by
  unfold SF at h;split at h<;>cases h;first|exact cN|exact cN _|exact cN _ _|exact cN _ _ _|exact cN _ _ _ _|exact cN _ _ _ _ _|exact cN _ _ _ _ _ _|exact cN _ _ _ _ _ _ _|exact cN _ _ _ _ _ _ _ _|exact cN _ _ _ _ _ _ _ _ _|exact cN _ _ _ _ _ _ _ _ _ _|exact cN _ _ _ _ _ _ _ _ _ _ _)).add 171 (one SJ) (bD fun xs σ v σ' d h=>by
  unfold SJ at h;split at h<;>cases h;first|exact cL|exact cL _|exact cL _ _|exact cL _ _ _|exact cL _ _ _ _|exact cL _ _ _ _ _|exact cL _ _ _ _ _ _|exact cL _ _ _ _ _ _ _|exact cL _ _ _ _ _ _ _ _|exact cL _ _ _ _ _ _ _ _ _|exact cL _ _ _ _ _ _ _ _ _ _|exact cL _ _ _ _ _ _ _ _ _ _ _)
theorem gT(ax ay bx ey:Int):aD Tryz.prog 188 [.agg [.int .i64 ax,.int .i64 ay],.agg [.int .i64 bx,.int .i64 ey]] [] (.agg [.int .i64 (w64 (bx - ax)),.int .i64 (w64 (ey - ay))]) [] []:=
 aV p1 2 fun _ _ K hK=>by
  have e: ∀K,run p1 2 188 [.agg [.int .i64 ax,.int .i64 ay],.agg [.int .i64 bx,.int .i64 ey]] [] K=K (.agg [.int .i64 (w64 (bx - ax)),.int .i64 (w64 (ey - ay))]) [] []:=fun K=>by kernel_rfl
  rw [e];exact hK
theorem iX(ux uy vx vy:Int):aD Tryz.prog 190 [.agg [.int .i64 ux,.int .i64 uy],.agg [.int .i64 vx,.int .i64 vy]] [] (gE (OP ux uy vx vy)) [] []:=
 aV p1 2 fun _ _ K hK=>by
  have e: ∀K,run p1 2 190 [.agg [.int .i64 ux,.int .i64 uy],.agg [.int .i64 vx,.int .i64 vy]] [] K=K (gE (OP ux uy vx vy)) [] []:=fun K=>by kernel_rfl
  rw [e];exact hK
theorem fE(ux uy vx vy:Int):aD Tryz.prog 215 [.agg [.int .i64 ux,.int .i64 uy],.agg [.int .i64 vx,.int .i64 vy]] [] (gE (A4 ux uy vx vy)) [] []:=
 aV p1 3 fun _ _ K hK=>by
  have e: ∀K,run p1 3 215 [.agg [.int .i64 ux,.int .i64 uy],.agg [.int .i64 vx,.int .i64 vy]] [] K=K (gE (A4 ux uy vx vy)) [] []:=fun K=>by kernel_rfl
  rw [e];exact hK
def Z0 :List SV->List (Option SB)->Out
 | [.agg [.int .i64 ax,.int .i64 ay],.agg [.int .i64 bx,.int .i64 ey]],[]=>some (.agg [.int .i64 (w64 (bx - ax)),.int .i64 (w64 (ey - ay))],[],[])
 |_,_=>none
def aDo :List SV->List (Option SB)->Out
 | [.agg [.int .i64 ux,.int .i64 uy],.agg [.int .i64 vx,.int .i64 vy]],[]=>some (gE (OP ux uy vx vy),[],[])
 |_,_=>none
def QD :List SV->List (Option SB)->Out
 | [.agg [.int .i64 ux,.int .i64 uy],.agg [.int .i64 vx,.int .i64 vy]],[]=>some (gE (A4 ux uy vx vy),[],[])
 |_,_=>none
def KD(x y:Int)(F T:Prop):Prop:=Br (decide ((if y>x then y else x)>281474976710656)) F (Br (decide ((if y<x then y else x)< -281474976710656)) F T)
theorem xW{x y:Int}{F T:Prop}(hF:sR x y=true->F)(hT:sR x y=false->T):KD x y F T:=by
 unfold KD
 unfold sR at hF hT
 refine Br.of (fun c=>hF ?_) fun c=>Br.of (fun c2=>hF ?_) fun c2=>hT ?_
 ·rw [c];rfl
 ·rw [c,c2];rfl
 ·rw [c,c2];rfl
theorem gH(t:TypeId)(ax ay bx ey x y:Int):aD Tryz.prog 184 [.arr 0 0 3 3] [some (.cells t [.int .i64 ax,.int .i64 ay,.int .i64 bx,.int .i64 ey,.int .i64 x,.int .i64 y])] (.bool (!EB ax ay bx ey x y))
  [some (.cells t [.int .i64 ax,.int .i64 ay,.int .i64 bx,.int .i64 ey,.int .i64 x,.int .i64 y])] []:=
 jU 5 p1 2 fun _ _ K hK=>by
  have e: ∀K,n9 5 p1 2 184 [.arr 0 0 3 3] [some (.cells t [.int .i64 ax,.int .i64 ay,.int .i64 bx,.int .i64 ey,.int .i64 x,.int .i64 y])] K=
   (fun F T=>KD ax ay F (KD bx ey F (KD x y F T))) (K (.bool false) [some (.cells t [.int .i64 ax,.int .i64 ay,.int .i64 bx,.int .i64 ey,.int .i64 x,.int .i64 y])] []) (K (.bool true) [some (.cells t [.int .i64 ax,.int .i64 ay,.int .i64 bx,.int .i64 ey,.int .i64 x,.int .i64 y])] []):=fun K=>by kernel_rfl
  rw [e]
  unfold EB at hK
  refine xW (fun c=> ?_) fun c=>xW (fun c2=> ?_) fun c2=>xW (fun c3=> ?_) fun c3=> ?_
  ·rw [c] at hK;exact hK
  ·rw [c,c2] at hK;exact hK
  ·rw [c,c2,c3] at hK;exact hK
  ·rw [c,c2,c3] at hK;exact hK
def aAw :List SV->List (Option SB)->Out
 | [.arr 0 0 3 3],[some (.cells t [.int .i64 ax,.int .i64 ay,.int .i64 bx,.int .i64 ey,.int .i64 x,.int .i64 y])]=>
  some (.bool (!EB ax ay bx ey x y),[some (.cells t [.int .i64 ax,.int .i64 ay,.int .i64 bx,.int .i64 ey,.int .i64 x,.int .i64 y])],[])
 |_,_=>none
noncomputable def p2 :bT Tryz.prog:=((((p1).add 188 (one Z0) (bD fun xs σ v σ' d h=>by
  unfold Z0 at h;split at h<;>cases h;first|exact gT|exact gT _|exact gT _ _|exact gT _ _ _|exact gT _ _ _ _|exact gT _ _ _ _ _|exact gT _ _ _ _ _ _|exact gT _ _ _ _ _ _ _|exact gT _ _ _ _ _ _ _ _|exact gT _ _ _ _ _ _ _ _ _|exact gT _ _ _ _ _ _ _ _ _ _|exact gT _ _ _ _ _ _ _ _ _ _ _)).add 190 (one aDo) (bD fun xs σ v σ' d h=>by
  unfold aDo at h;split at h<;>cases h;first|exact iX|exact iX _|exact iX _ _|exact iX _ _ _|exact iX _ _ _ _|exact iX _ _ _ _ _|exact iX _ _ _ _ _ _|exact iX _ _ _ _ _ _ _|exact iX _ _ _ _ _ _ _ _|exact iX _ _ _ _ _ _ _ _ _|exact iX _ _ _ _ _ _ _ _ _ _|exact iX _ _ _ _ _ _ _ _ _ _ _)).add 215 (one QD) (bD fun xs σ v σ' d h=>by
  unfold QD at h;split at h<;>cases h;first|exact fE|exact fE _|exact fE _ _|exact fE _ _ _|exact fE _ _ _ _|exact fE _ _ _ _ _|exact fE _ _ _ _ _ _|exact fE _ _ _ _ _ _ _|exact fE _ _ _ _ _ _ _ _|exact fE _ _ _ _ _ _ _ _ _|exact fE _ _ _ _ _ _ _ _ _ _|exact fE _ _ _ _ _ _ _ _ _ _ _)).add 184 (one aAw) (bD fun xs σ v σ' d h=>by
  unfold aAw at h;split at h<;>cases h;first|exact gH|exact gH _|exact gH _ _|exact gH _ _ _|exact gH _ _ _ _|exact gH _ _ _ _ _|exact gH _ _ _ _ _ _|exact gH _ _ _ _ _ _ _|exact gH _ _ _ _ _ _ _ _|exact gH _ _ _ _ _ _ _ _ _|exact gH _ _ _ _ _ _ _ _ _ _|exact gH _ _ _ _ _ _ _ _ _ _ _)
def wO(ax ay bx ey x y:Int):Bool:=decide (0<=E9 ax ay bx ey x y)&&decide (0<=E9 bx ey ax ay x y)
theorem eI(ax ay bx ey x y:Int):aD Tryz.prog 187 [.agg [.int .i64 ax,.int .i64 ay],.agg [.int .i64 bx,.int .i64 ey],.agg [.int .i64 x,.int .i64 y]] [] (.bool (wO ax ay bx ey x y)) [] []:=
 aV p2 2 fun _ _ K hK=>by
  have e: ∀K,run p2 2 187 [.agg [.int .i64 ax,.int .i64 ay],.agg [.int .i64 bx,.int .i64 ey],.agg [.int .i64 x,.int .i64 y]] [] K=
   Br (decide (mJ (wvw (E9 ax ay bx ey x y)) 0>=0)) (K (.bool (decide (mJ (wvw (E9 bx ey ax ay x y)) 0>=0))) [] []) (K (.bool false) [] []):=fun K=>by kernel_rfl
  rw [e,GP,GP,qD,qD]
  unfold wO at hK
  refine Br.of (fun c=> ?_) fun c=> ?_<;>rw [c] at hK<;>exact hK
theorem gS(ax ay bx ey x y:Int):aD Tryz.prog 185 [.agg [.int .i64 ax,.int .i64 ay],.agg [.int .i64 bx,.int .i64 ey],.agg [.int .i64 x,.int .i64 y]] [] (gE (AO ax ay bx ey x y)) [] []:=
 aV p2 2 fun _ _ K hK=>by
  have e: ∀K,run p2 2 185 [.agg [.int .i64 ax,.int .i64 ay],.agg [.int .i64 bx,.int .i64 ey],.agg [.int .i64 x,.int .i64 y]] [] K=K (gE (AO ax ay bx ey x y)) [] []:=fun K=>by kernel_rfl
  rw [e];exact hK
def JB :List SV->List (Option SB)->Out
 | [.agg [.int .i64 ax,.int .i64 ay],.agg [.int .i64 bx,.int .i64 ey],.agg [.int .i64 x,.int .i64 y]],[]=>some (.bool (wO ax ay bx ey x y),[],[])
 |_,_=>none
def aAm :List SV->List (Option SB)->Out
 | [.agg [.int .i64 ax,.int .i64 ay],.agg [.int .i64 bx,.int .i64 ey],.agg [.int .i64 x,.int .i64 y]],[]=>some (gE (AO ax ay bx ey x y),[],[])
 |_,_=>none
noncomputable def p3 :bT Tryz.prog:=((p2).add 187 (one JB) (bD fun xs σ v σ' d h=>by
  unfold JB at h;split at h<;>cases h;first|exact eI|exact eI _|exact eI _ _|exact eI _ _ _|exact eI _ _ _ _|exact eI _ _ _ _ _|exact eI _ _ _ _ _ _|exact eI _ _ _ _ _ _ _|exact eI _ _ _ _ _ _ _ _|exact eI _ _ _ _ _ _ _ _ _|exact eI _ _ _ _ _ _ _ _ _ _|exact eI _ _ _ _ _ _ _ _ _ _ _)).add 185 (one aAm) (bD fun xs σ v σ' d h=>by
  unfold aAm at h;split at h<;>cases h;first|exact gS|exact gS _|exact gS _ _|exact gS _ _ _|exact gS _ _ _ _|exact gS _ _ _ _ _|exact gS _ _ _ _ _ _|exact gS _ _ _ _ _ _ _|exact gS _ _ _ _ _ _ _ _|exact gS _ _ _ _ _ _ _ _ _|exact gS _ _ _ _ _ _ _ _ _ _|exact gS _ _ _ _ _ _ _ _ _ _ _)
def aFG(A L:Int)(K:KC):Prop:=
 Br (!i0 (wvw A) L) (K (.int .i64 0) [] []) (Br (decide (mJ (wvw (nI (wvw A) L*L)) (wvw A)<0)) (K (.int .i64 (IntKind.i64.wrap (nI (wvw A) L+1))) [] []) (K (.int .i64 (nI (wvw A) L)) [] []))
theorem MW(ax ay bx ey x y:Int)(K:KC):run p3 2 149 [.agg [.int .i64 ax,.int .i64 ay],.agg [.int .i64 bx,.int .i64 ey],.agg [.int .i64 x,.int .i64 y]] [] K=
  Br (!!EB ax ay bx ey x y) (K (.int .i64 0) [] []) (Br (decide (mJ (wvw (AO ax ay bx ey x y)) 0>=0)) (K (.int .i64 0) [] []) (Br (!wO ax ay bx ey x y) (K (.int .i64 0) [] [])
   (aFG (aB5 (AO ax ay bx ey x y)) (IntKind.i64.wrap (hJ (wvw (OP (w64 (bx - ax)) (w64 (ey - ay)) (w64 (bx - ax)) (w64 (ey - ay)))))) K))):=by kernel_rfl
theorem dK(ax ay bx ey x y:Int):aD Tryz.prog 149 [.agg [.int .i64 ax,.int .i64 ay],.agg [.int .i64 bx,.int .i64 ey],.agg [.int .i64 x,.int .i64 y]] [] (.int .i64 (OT ax ay bx ey x y)) [] []:=
 aV p3 2 fun _ _ K hK=>by
  rw [MW]
  unfold OT at hK
  refine Br.of (fun c=> ?_) fun c=> ?_
  ·rw [Bool.not_not] at c;rw [c] at hK;exact hK
  rw [Bool.not_not] at c;rw [c] at hK
  simp only [cond_false] at hK
  obtain ⟨⟨h1,h2⟩,⟨h3,h4⟩,⟨h5,h6⟩⟩:=tT c
  have r1:=PO c
  rw [GP,qD,W7 c]
  unfold wO
  rw [C2 h1 h2 h3 h4,C2 (by omega) (by omega) h5 h6]
  refine Br.of (fun c1=> ?_) fun c1=>Br.of (fun c2=> ?_) fun c2=> ?_
  ·rw [c1] at hK;exact hK
  ·rw [c1] at hK
   have:(decide (uR ax ay bx ey x y<0)||decide (uR bx ey ax ay x y<0))=true:=by
    simp only [Bool.not_eq_true',Bool.and_eq_false_iff,decide_eq_false_iff_not] at c2
    simp only [Bool.or_eq_true,decide_eq_true_eq];omega
   rw [this] at hK;exact hK
  ·have c1':=of_decide_eq_false c1
   rw [c1] at hK
   have:(decide (uR ax ay bx ey x y<0)||decide (uR bx ey ax ay x y<0))=false:=by
    simp only [Bool.not_eq_false',Bool.and_eq_true,decide_eq_true_eq] at c2
    simp only [Bool.or_eq_false_iff,decide_eq_false_iff_not];omega
   rw [this] at hK
   simp only [Bool.or_false,cond_false] at hK
   obtain ⟨l1,l2,l3⟩:=VM c (by omega)
   have hd:OP (w64 (bx - ax)) (w64 (ey - ay)) (w64 (bx - ax)) (w64 (ey - ay))=uR ax ay bx ey bx ey:=C2 h1 h2 h1 h2
   rw [hd,qD,gY]
   generalize hL:hJ (uR ax ay bx ey bx ey)=L at*
   rw [show (L+9223372036854775808)%18446744073709551616 - 9223372036854775808=L by omega,RM (by omega) (by omega)]
   generalize hA: -sE ax ay bx ey x y=A at*
   have hr:=Z7 (A:=A) (L:=L) (by omega) l1
   have hdn:DM A L=iR A L:=by
    unfold DM bG
    rw [decide_eq_false (show¬A<0 by omega),decide_eq_false (show¬L<0 by omega)];rfl
   have hc0:0<=yG A L/\yG A L<=1125899906842624:=by
    unfold yG
    refine ⟨Int.ediv_nonneg (by omega) (by omega), ?_⟩
    have:(A+L - 1)/L<1125899906842625:=by rw [Int.ediv_lt_iff_lt_mul l1];omega
    omega
   have hq0:0<=iR A L:=by
    have:=Int.ediv_nonneg (show 0<=A by omega) (show 0<=L by omega)
    unfold iR;cases ((decide (A%L>L - A%L)||A%L==L - A%L&&A/L%2==1)&&decide (A%L>0))<;>simp only [cond_true,cond_false]<;>omega
   have hq:iR A L<=yG A L:=by
    rw [<- hr];cases decide (iR A L*L<A)<;>simp only [cond_true,cond_false]<;>omega
   have hg:i0 A L=true:=by
    unfold i0
    rw [hdn,(jS _).2 (by omega),Bool.and_true,bne_iff_ne];omega
   have hv:nI A L=iR A L:=by unfold nI;rw [hg,hdn];rfl
   unfold aFG
   rw [qD,hg,hv,qD]
   refine Br.of (fun c=>by cases c) fun _=> ?_
   have hcm:decide (mJ (iR A L*L) A<0)=decide (iR A L*L<A):=by
    unfold mJ
    cases h:decide (iR A L*L<A)
    ·simp only [cond_false];cases decide (A<iR A L*L)<;>rfl
    ·rfl
   rw [hcm]
   refine Br.of (fun c3=> ?_) fun c3=> ?_<;>rw [c3] at hr
   ·simp only [cond_true] at hr
    rw [gY,show (iR A L+1+9223372036854775808)%18446744073709551616 - 9223372036854775808=iR A L+1 by omega,hr]
    exact hK
   ·simp only [cond_false] at hr
    rw [hr];exact hK
def Q4 :List SV->List (Option SB)->Out
 | [.agg [.int .i64 ax,.int .i64 ay],.agg [.int .i64 bx,.int .i64 ey],.agg [.int .i64 x,.int .i64 y]],[]=>some (.int .i64 (OT ax ay bx ey x y),[],[])
 |_,_=>none
noncomputable def p4 :bT Tryz.prog:=(p3).add 149 (one Q4) (bD fun xs σ v σ' d h=>by
  unfold Q4 at h;split at h<;>cases h;first|exact dK|exact dK _|exact dK _ _|exact dK _ _ _|exact dK _ _ _ _|exact dK _ _ _ _ _|exact dK _ _ _ _ _ _|exact dK _ _ _ _ _ _ _|exact dK _ _ _ _ _ _ _ _|exact dK _ _ _ _ _ _ _ _ _|exact dK _ _ _ _ _ _ _ _ _ _|exact dK _ _ _ _ _ _ _ _ _ _ _)
end Go.Proofs.YtghnfjfkjhbgdaaGreatDoor
namespace Go.Proofs.YtghnfjfkjhbgdaaGreatDoor
open Go.Se
set_option maxRecDepth 100000
theorem XE(t:TypeId)(x m:Int)(K:KC):run p4 2 212 [.int .i64 x,.ptr 0 0] [some (.cells t [.int .i64 m])] K=
 (Br (decide (x>m)) (K (SV.bool true) [some (SB.cells t [SV.int .i64 m])] []) (K (SV.bool (decide (x<IntKind.wrap IntKind.i64 (0 - m)))) [some (SB.cells t [SV.int .i64 m])] [])):=by kernel_rfl
theorem gG(t:TypeId)(x m:Int):aD Tryz.prog 212 [.int .i64 x,.ptr 0 0] [some (.cells t [.int .i64 m])] (.bool (eJ m x)) [some (.cells t [.int .i64 m])] []:=
 aV p4 2 fun _ _ K hK=>by
  rw [XE];exact orQ hK
def aAk :List SV->List (Option SB)->Out
 | [.int .i64 x,.ptr 0 0],[some (.cells t [.int .i64 m])]=>some (.bool (eJ m x),[some (.cells t [.int .i64 m])],[])
 |_,_=>none
theorem XM(a0 a1 a2 a3 a4 a5:Int)(nh:Nat)(h:Nat->List SV)(ng:Nat)(g:Nat->List SV)(nk:Nat)(kg:Nat->List SV)(nl:Nat)(l:Nat->List SV)(nr:Nat)(rl:Nat->List SV)(nt:Nat)(gt:Nat->List SV)(sx sy hd lp:Int)(k:Int)(K:KC):run p4 2 176 [.int .i64 k,.ptr 0 0] [some (.cells 34 [.int .i64 a0,.int .i64 a1,.int .i64 a2,.int .i64 a3,.int .i64 a4,.int .i64 a5,.ro nh 1 h,.ro ng 1 g,.ro nk 3 kg,.ro nl 2 l,.ro nr 1 rl,.ro nt 5 gt,.int .i64 sx,.int .i64 sy,.int .u32 hd,.int .i64 lp])] K=
 (Br (decide (k<0)) (K (SV.bool true) [some (SB.cells 34 [SV.int .i64 a0,SV.int .i64 a1,SV.int .i64 a2,SV.int .i64 a3,SV.int .i64 a4,SV.int .i64 a5,SV.ro nh 1 h,SV.ro ng 1 g,SV.ro nk 3 kg,SV.ro nl 2 l,SV.ro nr 1 rl,SV.ro nt 5 gt,SV.int .i64 sx,SV.int .i64 sy,SV.int .u32 hd,SV.int .i64 lp])] []) (K (SV.bool (decide (k>=(↑nk:Int)))) [some (SB.cells 34 [SV.int .i64 a0,SV.int .i64 a1,SV.int .i64 a2,SV.int .i64 a3,SV.int .i64 a4,SV.int .i64 a5,SV.ro nh 1 h,SV.ro ng 1 g,SV.ro nk 3 kg,SV.ro nl 2 l,SV.ro nr 1 rl,SV.ro nt 5 gt,SV.int .i64 sx,SV.int .i64 sy,SV.int .u32 hd,SV.int .i64 lp])] [])):=by kernel_rfl
theorem aAI(a0 a1 a2 a3 a4 a5:Int)(nh:Nat)(h:Nat->List SV)(ng:Nat)(g:Nat->List SV)(nk:Nat)(kg:Nat->List SV)(nl:Nat)(l:Nat->List SV)(nr:Nat)(rl:Nat->List SV)(nt:Nat)(gt:Nat->List SV)(sx sy hd lp:Int)(k:Int):aD Tryz.prog 176 [.int .i64 k,.ptr 0 0] [some (.cells 34 [.int .i64 a0,.int .i64 a1,.int .i64 a2,.int .i64 a3,.int .i64 a4,.int .i64 a5,.ro nh 1 h,.ro ng 1 g,.ro nk 3 kg,.ro nl 2 l,.ro nr 1 rl,.ro nt 5 gt,.int .i64 sx,.int .i64 sy,.int .u32 hd,.int .i64 lp])] (.bool (uK nk k)) [some (.cells 34 [.int .i64 a0,.int .i64 a1,.int .i64 a2,.int .i64 a3,.int .i64 a4,.int .i64 a5,.ro nh 1 h,.ro ng 1 g,.ro nk 3 kg,.ro nl 2 l,.ro nr 1 rl,.ro nt 5 gt,.int .i64 sx,.int .i64 sy,.int .u32 hd,.int .i64 lp])] []:=
 aV p4 2 fun _ _ K hK=>by
  rw [XM];exact orQ hK
def PR :List SV->List (Option SB)->Out
 | [.int .i64 k,.ptr 0 0],[some (.cells 34 [.int .i64 a0,.int .i64 a1,.int .i64 a2,.int .i64 a3,.int .i64 a4,.int .i64 a5,.ro nh 1 h,.ro ng 1 g,.ro nk 3 kg,.ro nl 2 l,.ro nr 1 rl,.ro nt 5 gt,.int .i64 sx,.int .i64 sy,.int .u32 hd,.int .i64 lp])]=>
  some (.bool (uK nk k),[some (.cells 34 [.int .i64 a0,.int .i64 a1,.int .i64 a2,.int .i64 a3,.int .i64 a4,.int .i64 a5,.ro nh 1 h,.ro ng 1 g,.ro nk 3 kg,.ro nl 2 l,.ro nr 1 rl,.ro nt 5 gt,.int .i64 sx,.int .i64 sy,.int .u32 hd,.int .i64 lp])],[])
 |_,_=>none
theorem TC(xs:List SV)(σ:List (Option SB)):Sat Tryz.prog 176 xs σ (one PR xs σ):=
 bD (fun xs σ v σ' d h=>by
  unfold PR at h;split at h<;>cases h;apply aAI) xs σ
theorem aCO(x y:Int)(o:Bool)(K:KC):run p4 2 177 [.agg [.int .i64 x,.int .i64 y,.bool o]] [] K=
 (Br (decide ((bif false then if y>x then y else x else if y<x then y else x)<0)) (K (SV.bool true) [] []) (Br (decide (x>8589934592)) (K (SV.bool true) [] []) (K (SV.bool (decide (y>4294967296))) [] []))):=by kernel_rfl
theorem i6(x y:Int)(o:Bool):aD Tryz.prog 177 [.agg [.int .i64 x,.int .i64 y,.bool o]] [] (.bool (EC x y)) [] []:=
 aV p4 2 fun _ _ K hK=>by
  rw [aCO]
  simp only [vX]
  refine XR hK ?_
  unfold EC;simp only [cond_true,cond_false];grind
def aC7 :List SV->List (Option SB)->Out
 | [.agg [.int .i64 x,.int .i64 y,.bool _]],[]=>some (.bool (EC x y),[],[])
 |_,_=>none
theorem aBv(x y:Int)(K:KC):run p4 2 145 [.agg [.int .i64 x,.int .i64 y]] [] K=
 (Br (decide ((bif true then if y>x then y else x else if y<x then y else x)>140737488355328)) (K (SV.bool true) [] []) (K (SV.bool (decide ((bif false then if y>x then y else x else if y<x then y else x)< -140737488355328))) [] [])):=by kernel_rfl
theorem i1(x y:Int):aD Tryz.prog 145 [.agg [.int .i64 x,.int .i64 y]] [] (.bool (t6 x y)) [] []:=
 aV p4 2 fun _ _ K hK=>by
  rw [aBv];exact orQ hK
theorem aBR(x y:Int)(K:KC):run p4 2 182 [.agg [.int .i64 x,.int .i64 y]] [] K=
 (Br (decide ((bif true then if y>x then y else x else if y<x then y else x)>281474976710656)) (K (SV.bool true) [] []) (K (SV.bool (decide ((bif false then if y>x then y else x else if y<x then y else x)< -281474976710656))) [] [])):=by kernel_rfl
theorem iY(x y:Int):aD Tryz.prog 182 [.agg [.int .i64 x,.int .i64 y]] [] (.bool (sR x y)) [] []:=
 aV p4 2 fun _ _ K hK=>by
  rw [aBR];exact orQ hK
def aDn :List SV->List (Option SB)->Out
 | [.agg [.int .i64 x,.int .i64 y]],[]=>some (.bool (t6 x y),[],[])
 |_,_=>none
def aC6 :List SV->List (Option SB)->Out
 | [.agg [.int .i64 x,.int .i64 y]],[]=>some (.bool (sR x y),[],[])
 |_,_=>none
theorem O0(t:Trk)(K:KC):run p4 2 173 [.agg (aM t)] [] K=
 (Br (decide (1<=t.cols)) (Br (!decide (t.cols<=64)) (K (SV.bool false) [] []) (Br (decide (1<=t.rows)) (Br (!decide (t.rows<=64)) (K (SV.bool false) [] []) (Br (decide ((↑t.nk:Int)<1)) (K (SV.bool false) [] []) (Br (decide ((↑t.nk:Int)>8)) (K (SV.bool false) [] []) (Br ((↑t.nh:Int)==IntKind.wrap IntKind.i64 (IntKind.wrap IntKind.i64 (t.cols+1)*IntKind.wrap IntKind.i64 (t.rows+1))) (K (SV.bool ((↑t.ng:Int)==IntKind.wrap IntKind.i64 (t.cols*t.rows))) [] []) (K (SV.bool false) [] []))))) (K (SV.bool false) [] []))) (K (SV.bool false) [] [])):=by kernel_rfl
theorem MM(t:Trk):aD Tryz.prog 173 [.agg (aM t)] [] (.bool (lK t.cols t.rows t.nh t.ng t.nk)) [] []:=
 aV p4 2 fun _ _ K hK=>by
  rw [O0]
  simp only [vX]
  refine XR hK ?_
  unfold lK;grind
noncomputable def p5 :bT Tryz.prog:=(((((p4).add 212 (one aAk) (bD fun xs σ v σ' d h=>by
  unfold aAk at h;split at h<;>cases h;first|exact gG|exact gG _|exact gG _ _|exact gG _ _ _|exact gG _ _ _ _|exact gG _ _ _ _ _|exact gG _ _ _ _ _ _|exact gG _ _ _ _ _ _ _|exact gG _ _ _ _ _ _ _ _|exact gG _ _ _ _ _ _ _ _ _|exact gG _ _ _ _ _ _ _ _ _ _|exact gG _ _ _ _ _ _ _ _ _ _ _)).add 176 (one PR) TC).add 177 (one aC7) (bD fun xs σ v σ' d h=>by
  unfold aC7 at h;split at h<;>cases h;first|exact i6|exact i6 _|exact i6 _ _|exact i6 _ _ _|exact i6 _ _ _ _|exact i6 _ _ _ _ _|exact i6 _ _ _ _ _ _|exact i6 _ _ _ _ _ _ _|exact i6 _ _ _ _ _ _ _ _|exact i6 _ _ _ _ _ _ _ _ _|exact i6 _ _ _ _ _ _ _ _ _ _|exact i6 _ _ _ _ _ _ _ _ _ _ _)).add 145 (one aDn) (bD fun xs σ v σ' d h=>by
  unfold aDn at h;split at h<;>cases h;first|exact i1|exact i1 _|exact i1 _ _|exact i1 _ _ _|exact i1 _ _ _ _|exact i1 _ _ _ _ _|exact i1 _ _ _ _ _ _|exact i1 _ _ _ _ _ _ _|exact i1 _ _ _ _ _ _ _ _|exact i1 _ _ _ _ _ _ _ _ _|exact i1 _ _ _ _ _ _ _ _ _ _|exact i1 _ _ _ _ _ _ _ _ _ _ _)).add 182 (one aC6) (bD fun xs σ v σ' d h=>by
  unfold aC6 at h;split at h<;>cases h;first|exact iY|exact iY _|exact iY _ _|exact iY _ _ _|exact iY _ _ _ _|exact iY _ _ _ _ _|exact iY _ _ _ _ _ _|exact iY _ _ _ _ _ _ _|exact iY _ _ _ _ _ _ _ _|exact iY _ _ _ _ _ _ _ _ _|exact iY _ _ _ _ _ _ _ _ _ _|exact iY _ _ _ _ _ _ _ _ _ _ _)
end Go.Proofs.YtghnfjfkjhbgdaaGreatDoor
namespace Go.Proofs.YtghnfjfkjhbgdaaGreatDoor
open Go.Se
set_option maxRecDepth 100000
def EF :List (Nat×eR):=[(0,⟨[4,0,1,7,8],[0],[],1,[]⟩)]
def LN(t:TypeId)(m:Int)(X:Nat->Int)(n:Nat)(r i:Int):St:=⟨[(4,.int .i64 r),(0,.ro n 1 (aP X)),(1,.fn (.func 212) [] [.ptr 0 0]),(7,.int .i64 n),(8,.int .i64 i)],[(0,some (.cells t [.int .i64 m]))],1,[],19⟩
theorem S0(K:KC)(t:TypeId)(m:Int)(X:Nat->Int)(n:Nat):eA EF (fun _=>0) p5 2 234 [.ro n 1 (aP X),.fn (.func 212) [] [.ptr 0 0]] [some (.cells t [.int .i64 m])] K=
  ∃k,bO (fW EF (fun _=>0) p5 1) (aB EF 1) Tryz.f234 [1,0,1,0] 0 1 K k (LN t m X n 0 0):=by kernel_rfl
theorem UP(K:Ex->St->Prop)(t:TypeId)(m:Int)(X:Nat->Int)(n i:Nat):aF (fW EF (fun _=>0) p5 1) (aB EF 1) Tryz.f234 [1,0,1,0] 0 K (LN t m X n 0 i)=
  Br (decide ((i:Int)<n)) (If (decide (0<=(i:Int))&&decide ((i:Int)<n)) (Br (eJ m (X i)) (K .ret (LN t m X n i i)) (K .normal (LN t m X n 0 (IntKind.i64.wrap (i+1)))))) (K (.exit 0) (LN t m X n 0 i)):=by kernel_rfl
theorem aBx(K:KC)(t:TypeId)(m:Int)(X:Nat->Int)(n:Nat)(r i:Int):aE (fW EF (fun _=>0) p5 1) (aB EF 1) Tryz.f234 [1,0,1,0] 1 K .ret (LN t m X n r i)=K (.int .i64 r) [some (.cells t [.int .i64 m])] []:=by kernel_rfl
theorem TF(K:KC)(t:TypeId)(m:Int)(X:Nat->Int)(n:Nat)(i:Int):aE (fW EF (fun _=>0) p5 1) (aB EF 1) Tryz.f234 [1,0,1,0] 1 K (.exit 0) (LN t m X n 0 i)=K (.int .i64 (-1)) [some (.cells t [.int .i64 m])] []:=by kernel_rfl
theorem aFC(t:TypeId)(m:Int)(X:Nat->Int)(n:Nat):aD Tryz.prog 234 [.ro n 1 (aP X),.fn (.func 212) [] [.ptr 0 0]] [some (.cells t [.int .i64 m])] (.int .i64 (jM (fun i=>eJ m (X i)) n 0)) [some (.cells t [.int .i64 m])] []:=
 iC EF (fun _=>0) p5 2 (fun _ h=>nomatch h) fun ⟨⟨hl,_⟩,_⟩ _ K hK=>by
  rw [S0]
  exact mO (LN t m X n) n hl _ (fun K i=>UP K t m X n i) (aBx K t m X n) (TF K t m X n) (hK [] fun _ h=>nomatch h)
def ED :List (Nat×eR):=[(0,⟨[4,0,1,7,8],[0],[],1,[]⟩)]
def LO(a0 a1 a2 a3 a4 a5:Int)(nh:Nat)(h:Nat->List SV)(ng:Nat)(g:Nat->List SV)(nk:Nat)(kg:Nat->List SV)(nl:Nat)(l:Nat->List SV)(nr:Nat)(rl:Nat->List SV)(nt:Nat)(gt:Nat->List SV)(sx sy hd lp:Int)(X:Nat->Int)(n:Nat)(r i:Int):St:=⟨[(4,.int .i64 r),(0,.ro n 1 (aP X)),(1,.fn (.func 176) [] [.ptr 0 0]),(7,.int .i64 n),(8,.int .i64 i)],[(0,some (.cells 34 [.int .i64 a0,.int .i64 a1,.int .i64 a2,.int .i64 a3,.int .i64 a4,.int .i64 a5,.ro nh 1 h,.ro ng 1 g,.ro nk 3 kg,.ro nl 2 l,.ro nr 1 rl,.ro nt 5 gt,.int .i64 sx,.int .i64 sy,.int .u32 hd,.int .i64 lp]))],1,[],19⟩
theorem SH(K:KC)(a0 a1 a2 a3 a4 a5:Int)(nh:Nat)(h:Nat->List SV)(ng:Nat)(g:Nat->List SV)(nk:Nat)(kg:Nat->List SV)(nl:Nat)(l:Nat->List SV)(nr:Nat)(rl:Nat->List SV)(nt:Nat)(gt:Nat->List SV)(sx sy hd lp:Int)(X:Nat->Int)(n:Nat):eA ED (fun _=>0) p5 2 213 [.ro n 1 (aP X),.fn (.func 176) [] [.ptr 0 0]] [some (.cells 34 [.int .i64 a0,.int .i64 a1,.int .i64 a2,.int .i64 a3,.int .i64 a4,.int .i64 a5,.ro nh 1 h,.ro ng 1 g,.ro nk 3 kg,.ro nl 2 l,.ro nr 1 rl,.ro nt 5 gt,.int .i64 sx,.int .i64 sy,.int .u32 hd,.int .i64 lp])] K=
  ∃k,bO (fW ED (fun _=>0) p5 1) (aB ED 1) Tryz.f213 [1,0,1,0] 0 1 K k (LO a0 a1 a2 a3 a4 a5 nh h ng g nk kg nl l nr rl nt gt sx sy hd lp X n 0 0):=by kernel_rfl
theorem V3(K:Ex->St->Prop)(a0 a1 a2 a3 a4 a5:Int)(nh:Nat)(h:Nat->List SV)(ng:Nat)(g:Nat->List SV)(nk:Nat)(kg:Nat->List SV)(nl:Nat)(l:Nat->List SV)(nr:Nat)(rl:Nat->List SV)(nt:Nat)(gt:Nat->List SV)(sx sy hd lp:Int)(X:Nat->Int)(n i:Nat):aF (fW ED (fun _=>0) p5 1) (aB ED 1) Tryz.f213 [1,0,1,0] 0 K (LO a0 a1 a2 a3 a4 a5 nh h ng g nk kg nl l nr rl nt gt sx sy hd lp X n 0 i)=
  Br (decide ((i:Int)<n)) (If (decide (0<=(i:Int))&&decide ((i:Int)<n)) (Br (uK nk (X i)) (K .ret (LO a0 a1 a2 a3 a4 a5 nh h ng g nk kg nl l nr rl nt gt sx sy hd lp X n i i)) (K .normal (LO a0 a1 a2 a3 a4 a5 nh h ng g nk kg nl l nr rl nt gt sx sy hd lp X n 0 (IntKind.i64.wrap (i+1)))))) (K (.exit 0) (LO a0 a1 a2 a3 a4 a5 nh h ng g nk kg nl l nr rl nt gt sx sy hd lp X n 0 i)):=by kernel_rfl
theorem aBE(K:KC)(a0 a1 a2 a3 a4 a5:Int)(nh:Nat)(h:Nat->List SV)(ng:Nat)(g:Nat->List SV)(nk:Nat)(kg:Nat->List SV)(nl:Nat)(l:Nat->List SV)(nr:Nat)(rl:Nat->List SV)(nt:Nat)(gt:Nat->List SV)(sx sy hd lp:Int)(X:Nat->Int)(n:Nat)(r i:Int):aE (fW ED (fun _=>0) p5 1) (aB ED 1) Tryz.f213 [1,0,1,0] 1 K .ret (LO a0 a1 a2 a3 a4 a5 nh h ng g nk kg nl l nr rl nt gt sx sy hd lp X n r i)=K (.int .i64 r) [some (.cells 34 [.int .i64 a0,.int .i64 a1,.int .i64 a2,.int .i64 a3,.int .i64 a4,.int .i64 a5,.ro nh 1 h,.ro ng 1 g,.ro nk 3 kg,.ro nl 2 l,.ro nr 1 rl,.ro nt 5 gt,.int .i64 sx,.int .i64 sy,.int .u32 hd,.int .i64 lp])] []:=by kernel_rfl
theorem UF(K:KC)(a0 a1 a2 a3 a4 a5:Int)(nh:Nat)(h:Nat->List SV)(ng:Nat)(g:Nat->List SV)(nk:Nat)(kg:Nat->List SV)(nl:Nat)(l:Nat->List SV)(nr:Nat)(rl:Nat->List SV)(nt:Nat)(gt:Nat->List SV)(sx sy hd lp:Int)(X:Nat->Int)(n:Nat)(i:Int):aE (fW ED (fun _=>0) p5 1) (aB ED 1) Tryz.f213 [1,0,1,0] 1 K (.exit 0) (LO a0 a1 a2 a3 a4 a5 nh h ng g nk kg nl l nr rl nt gt sx sy hd lp X n 0 i)=K (.int .i64 (-1)) [some (.cells 34 [.int .i64 a0,.int .i64 a1,.int .i64 a2,.int .i64 a3,.int .i64 a4,.int .i64 a5,.ro nh 1 h,.ro ng 1 g,.ro nk 3 kg,.ro nl 2 l,.ro nr 1 rl,.ro nt 5 gt,.int .i64 sx,.int .i64 sy,.int .u32 hd,.int .i64 lp])] []:=by kernel_rfl
theorem aEM(a0 a1 a2 a3 a4 a5:Int)(nh:Nat)(h:Nat->List SV)(ng:Nat)(g:Nat->List SV)(nk:Nat)(kg:Nat->List SV)(nl:Nat)(l:Nat->List SV)(nr:Nat)(rl:Nat->List SV)(nt:Nat)(gt:Nat->List SV)(sx sy hd lp:Int)(X:Nat->Int)(n:Nat):aD Tryz.prog 213 [.ro n 1 (aP X),.fn (.func 176) [] [.ptr 0 0]] [some (.cells 34 [.int .i64 a0,.int .i64 a1,.int .i64 a2,.int .i64 a3,.int .i64 a4,.int .i64 a5,.ro nh 1 h,.ro ng 1 g,.ro nk 3 kg,.ro nl 2 l,.ro nr 1 rl,.ro nt 5 gt,.int .i64 sx,.int .i64 sy,.int .u32 hd,.int .i64 lp])] (.int .i64 (jM (fun i=>uK nk (X i)) n 0)) [some (.cells 34 [.int .i64 a0,.int .i64 a1,.int .i64 a2,.int .i64 a3,.int .i64 a4,.int .i64 a5,.ro nh 1 h,.ro ng 1 g,.ro nk 3 kg,.ro nl 2 l,.ro nr 1 rl,.ro nt 5 gt,.int .i64 sx,.int .i64 sy,.int .u32 hd,.int .i64 lp])] []:=
 iC ED (fun _=>0) p5 2 (fun _ h=>nomatch h) fun ⟨⟨hl,_⟩,_⟩ _ K hK=>by
  rw [SH]
  exact mO (LO a0 a1 a2 a3 a4 a5 nh h ng g nk kg nl l nr rl nt gt sx sy hd lp X n) n hl _ (fun K i=>V3 K a0 a1 a2 a3 a4 a5 nh h ng g nk kg nl l nr rl nt gt sx sy hd lp X n i) (aBE K a0 a1 a2 a3 a4 a5 nh h ng g nk kg nl l nr rl nt gt sx sy hd lp X n) (UF K a0 a1 a2 a3 a4 a5 nh h ng g nk kg nl l nr rl nt gt sx sy hd lp X n) (hK [] fun _ h=>nomatch h)
def D4 :List (Nat×eR):=[(0,⟨[4,0,1,7,8],[],[],0,[]⟩)]
def JQ(X Y:Nat->Int)(O:Nat->Bool)(n:Nat)(r i:Int):St:=⟨[(4,.int .i64 r),(0,.ro n 3 (QJ X Y O)),(1,.fn (.func 177) [] []),(7,.int .i64 n),(8,.int .i64 i)],[],0,[],19⟩
theorem R4(K:KC)(X Y:Nat->Int)(O:Nat->Bool)(n:Nat):eA D4 (fun _=>0) p5 2 214 [.ro n 3 (QJ X Y O),.fn (.func 177) [] []] [] K=
  ∃k,bO (fW D4 (fun _=>0) p5 1) (aB D4 0) Tryz.f214 [1,0,1,0] 0 0 K k (JQ X Y O n 0 0):=by kernel_rfl
theorem VT(K:Ex->St->Prop)(X Y:Nat->Int)(O:Nat->Bool)(n i:Nat):aF (fW D4 (fun _=>0) p5 1) (aB D4 0) Tryz.f214 [1,0,1,0] 0 K (JQ X Y O n 0 i)=
  Br (decide ((i:Int)<n)) (If (decide (0<=(i:Int))&&decide ((i:Int)<n)) (Br (EC (X i) (Y i)) (K .ret (JQ X Y O n i i)) (K .normal (JQ X Y O n 0 (IntKind.i64.wrap (i+1)))))) (K (.exit 0) (JQ X Y O n 0 i)):=by kernel_rfl
theorem aBD(K:KC)(X Y:Nat->Int)(O:Nat->Bool)(n:Nat)(r i:Int):aE (fW D4 (fun _=>0) p5 1) (aB D4 0) Tryz.f214 [1,0,1,0] 0 K .ret (JQ X Y O n r i)=K (.int .i64 r) [] []:=by kernel_rfl
theorem S2(K:KC)(X Y:Nat->Int)(O:Nat->Bool)(n:Nat)(i:Int):aE (fW D4 (fun _=>0) p5 1) (aB D4 0) Tryz.f214 [1,0,1,0] 0 K (.exit 0) (JQ X Y O n 0 i)=K (.int .i64 (-1)) [] []:=by kernel_rfl
theorem aD7(X Y:Nat->Int)(O:Nat->Bool)(n:Nat):aD Tryz.prog 214 [.ro n 3 (QJ X Y O),.fn (.func 177) [] []] [] (.int .i64 (jM (fun i=>EC (X i) (Y i)) n 0)) [] []:=
 iC D4 (fun _=>0) p5 2 (fun _ h=>nomatch h) fun ⟨⟨hl,_⟩,_⟩ _ K hK=>by
  rw [R4]
  exact mO (JQ X Y O n) n hl _ (fun K i=>VT K X Y O n i) (aBD K X Y O n) (S2 K X Y O n) (hK [] fun _ h=>nomatch h)
def DW :List (Nat×eR):=[(0,⟨[4,0,1,7,8],[],[],0,[]⟩)]
def IY(X Y:Nat->Int)(n:Nat)(r i:Int):St:=⟨[(4,.int .i64 r),(0,.ro n 2 (bE X Y)),(1,.fn (.func 145) [] []),(7,.int .i64 n),(8,.int .i64 i)],[],0,[],19⟩
theorem SU(K:KC)(X Y:Nat->Int)(n:Nat):eA DW (fun _=>0) p5 2 183 [.ro n 2 (bE X Y),.fn (.func 145) [] []] [] K=
  ∃k,bO (fW DW (fun _=>0) p5 1) (aB DW 0) Tryz.f183 [1,0,1,0] 0 0 K k (IY X Y n 0 0):=by kernel_rfl
theorem UL(K:Ex->St->Prop)(X Y:Nat->Int)(n i:Nat):aF (fW DW (fun _=>0) p5 1) (aB DW 0) Tryz.f183 [1,0,1,0] 0 K (IY X Y n 0 i)=
  Br (decide ((i:Int)<n)) (If (decide (0<=(i:Int))&&decide ((i:Int)<n)) (Br (t6 (X i) (Y i)) (K .ret (IY X Y n i i)) (K .normal (IY X Y n 0 (IntKind.i64.wrap (i+1)))))) (K (.exit 0) (IY X Y n 0 i)):=by kernel_rfl
theorem aBS(K:KC)(X Y:Nat->Int)(n:Nat)(r i:Int):aE (fW DW (fun _=>0) p5 1) (aB DW 0) Tryz.f183 [1,0,1,0] 0 K .ret (IY X Y n r i)=K (.int .i64 r) [] []:=by kernel_rfl
theorem UW(K:KC)(X Y:Nat->Int)(n:Nat)(i:Int):aE (fW DW (fun _=>0) p5 1) (aB DW 0) Tryz.f183 [1,0,1,0] 0 K (.exit 0) (IY X Y n 0 i)=K (.int .i64 (-1)) [] []:=by kernel_rfl
theorem aEr(X Y:Nat->Int)(n:Nat):aD Tryz.prog 183 [.ro n 2 (bE X Y),.fn (.func 145) [] []] [] (.int .i64 (jM (fun i=>t6 (X i) (Y i)) n 0)) [] []:=
 iC DW (fun _=>0) p5 2 (fun _ h=>nomatch h) fun ⟨⟨hl,_⟩,_⟩ _ K hK=>by
  rw [SU]
  exact mO (IY X Y n) n hl _ (fun K i=>UL K X Y n i) (aBS K X Y n) (UW K X Y n) (hK [] fun _ h=>nomatch h)
def DY :List (Nat×eR):=[(0,⟨[4,0,1,7,8],[],[],0,[]⟩)]
def KN(X Y:Nat->Int)(n:Nat)(r i:Int):St:=⟨[(4,.int .i64 r),(0,.ro n 2 (bE X Y)),(1,.fn (.func 182) [] []),(7,.int .i64 n),(8,.int .i64 i)],[],0,[],19⟩
theorem U2(K:KC)(X Y:Nat->Int)(n:Nat):eA DY (fun _=>0) p5 2 183 [.ro n 2 (bE X Y),.fn (.func 182) [] []] [] K=
  ∃k,bO (fW DY (fun _=>0) p5 1) (aB DY 0) Tryz.f183 [1,0,1,0] 0 0 K k (KN X Y n 0 0):=by kernel_rfl
theorem SP(K:Ex->St->Prop)(X Y:Nat->Int)(n i:Nat):aF (fW DY (fun _=>0) p5 1) (aB DY 0) Tryz.f183 [1,0,1,0] 0 K (KN X Y n 0 i)=
  Br (decide ((i:Int)<n)) (If (decide (0<=(i:Int))&&decide ((i:Int)<n)) (Br (sR (X i) (Y i)) (K .ret (KN X Y n i i)) (K .normal (KN X Y n 0 (IntKind.i64.wrap (i+1)))))) (K (.exit 0) (KN X Y n 0 i)):=by kernel_rfl
theorem aCq(K:KC)(X Y:Nat->Int)(n:Nat)(r i:Int):aE (fW DY (fun _=>0) p5 1) (aB DY 0) Tryz.f183 [1,0,1,0] 0 K .ret (KN X Y n r i)=K (.int .i64 r) [] []:=by kernel_rfl
theorem TQ(K:KC)(X Y:Nat->Int)(n:Nat)(i:Int):aE (fW DY (fun _=>0) p5 1) (aB DY 0) Tryz.f183 [1,0,1,0] 0 K (.exit 0) (KN X Y n 0 i)=K (.int .i64 (-1)) [] []:=by kernel_rfl
theorem aEG(X Y:Nat->Int)(n:Nat):aD Tryz.prog 183 [.ro n 2 (bE X Y),.fn (.func 182) [] []] [] (.int .i64 (jM (fun i=>sR (X i) (Y i)) n 0)) [] []:=
 iC DY (fun _=>0) p5 2 (fun _ h=>nomatch h) fun ⟨⟨hl,_⟩,_⟩ _ K hK=>by
  rw [U2]
  exact mO (KN X Y n) n hl _ (fun K i=>SP K X Y n i) (aCq K X Y n) (TQ K X Y n) (hK [] fun _ h=>nomatch h)
def aEB :List SV->List (Option SB)->KC->Prop
 | [.ro n 1 g,.fn (.func 212) [] [.ptr 0 0]],[some (.cells t [.int .i64 m])],K=>qC g/\K (.int .i64 (jM (fun i=>eJ m (px (g i))) n 0)) [some (.cells t [.int .i64 m])] []
 |_,_,_=>False
theorem aBM(xs:List SV)(σ:List (Option SB)):Sat Tryz.prog 234 xs σ (aEB xs σ):=by
 intro K hK
 unfold aEB at hK
 split at hK
 ·obtain ⟨hp,hK⟩:=hK
  refine ⟨_,_,_,hK, ?_⟩
  rw [vQ hp];apply aFC
 ·exact hK.elim
def aFo :List SV->List (Option SB)->KC->Prop
 | [.ro n 1 gg,.fn (.func 176) [] [.ptr 0 0]],[some (.cells 34 [.int .i64 a0,.int .i64 a1,.int .i64 a2,.int .i64 a3,.int .i64 a4,.int .i64 a5,.ro nh 1 h,.ro ng 1 g,.ro nk 3 kg,.ro nl 2 l,.ro nr 1 rl,.ro nt 5 gt,.int .i64 sx,.int .i64 sy,.int .u32 hd,.int .i64 lp])],K=>
  qC gg/\K (.int .i64 (jM (fun i=>uK nk (px (gg i))) n 0)) [some (.cells 34 [.int .i64 a0,.int .i64 a1,.int .i64 a2,.int .i64 a3,.int .i64 a4,.int .i64 a5,.ro nh 1 h,.ro ng 1 g,.ro nk 3 kg,.ro nl 2 l,.ro nr 1 rl,.ro nt 5 gt,.int .i64 sx,.int .i64 sy,.int .u32 hd,.int .i64 lp])] []
 |_,_,_=>False
theorem aCh(xs:List SV)(σ:List (Option SB)):Sat Tryz.prog 213 xs σ (aFo xs σ):=by
 intro K hK
 unfold aFo at hK
 split at hK
 ·obtain ⟨hp,hK⟩:=hK
  refine ⟨_,_,_,hK, ?_⟩
  rw [vQ hp];apply aEM
 ·exact hK.elim
def aEb :List SV->List (Option SB)->KC->Prop
 | [.ro n 3 g,.fn (.func 177) [] []],[],K=>H7 g/\K (.int .i64 (jM (fun i=>EC (px (g i)) (py (g i))) n 0)) [] []
 |_,_,_=>False
theorem aCI(xs:List SV)(σ:List (Option SB)):Sat Tryz.prog 214 xs σ (aEb xs σ):=by
 intro K hK
 unfold aEb at hK
 split at hK
 ·obtain ⟨hp,hK⟩:=hK
  refine ⟨_,_,_,hK, ?_⟩
  rw [XS hp];apply aD7
 ·exact hK.elim
def aEA :List SV->List (Option SB)->KC->Prop
 | [.ro n 2 g,.fn (.func 145) [] []],[],K=>pts g/\K (.int .i64 (jM (fun i=>t6 (px (g i)) (py (g i))) n 0)) [] []
 | [.ro n 2 g,.fn (.func 182) [] []],[],K=>pts g/\K (.int .i64 (jM (fun i=>sR (px (g i)) (py (g i))) n 0)) [] []
 |_,_,_=>False
theorem aBq(xs:List SV)(σ:List (Option SB)):Sat Tryz.prog 183 xs σ (aEA xs σ):=by
 intro K hK
 unfold aEA at hK
 split at hK
 ·obtain ⟨hp,hK⟩:=hK
  refine ⟨_,_,_,hK, ?_⟩
  rw [xG hp];apply aEr
 ·obtain ⟨hp,hK⟩:=hK
  refine ⟨_,_,_,hK, ?_⟩
  rw [xG hp];apply aEG
 ·exact hK.elim
noncomputable def p6 :bT Tryz.prog:=((((p5).add 234 aEB aBM).add 213 aFo aCh).add 214 aEb aCI).add 183 aEA aBq
end Go.Proofs.YtghnfjfkjhbgdaaGreatDoor
namespace Go.Proofs.YtghnfjfkjhbgdaaGreatDoor
open Go.Se
set_option maxRecDepth 100000
theorem YI(m:Int)(n:Nat)(X:Nat->Int)(K:KC):run p6 3 178 [.int .i64 m,.ro n 1 (aP X)] [] K=
 ((qC (aP X))/\(K (SV.bool !decide (jM (fun (i:Nat)=>eJ m (px (aP X i))) n 0>=0)) [] [])):=by kernel_rfl
theorem WU(t:TypeId)(x m:Int)(K:KC):n9 3 p5 5 178 [.int .i64 m,.arr 0 0 1 1] [some (.cells t [.int .i64 x])] K=
 (Br (eJ m x) (K (SV.bool false) [some (SB.cells t [SV.int .i64 x])] []) (K (SV.bool true) [some (SB.cells t [SV.int .i64 x])] [])):=by kernel_rfl
theorem Z9(t:TypeId)(x y m:Int)(K:KC):n9 4 p5 5 178 [.int .i64 m,.arr 0 0 2 2] [some (.cells t [.int .i64 x,.int .i64 y])] K=
 (Br (eJ m x) (K (SV.bool false) [some (SB.cells t [SV.int .i64 x,SV.int .i64 y])] []) (Br (eJ m y) (K (SV.bool false) [some (SB.cells t [SV.int .i64 x,SV.int .i64 y])] []) (K (SV.bool true) [some (SB.cells t [SV.int .i64 x,SV.int .i64 y])] []))):=by kernel_rfl
theorem aAt(m:Int)(n:Nat)(X:Nat->Int):aD Tryz.prog 178 [.int .i64 m,.ro n 1 (aP X)] [] (.bool (!iE (fun i=>eJ m (X i)) n)) [] []:=
 aV p6 3 fun _ _ K hK=>by
  rw [YI];exact ⟨fun _=>rfl,hK⟩
theorem YZ(t:TypeId)(x m:Int):aD Tryz.prog 178 [.int .i64 m,.arr 0 0 1 1] [some (.cells t [.int .i64 x])] (.bool (!eJ m x)) [some (.cells t [.int .i64 x])] []:=
 jU 3 p5 5 fun _ _ K hK=>by
  rw [WU];simp only [vX];refine XR hK ?_;cases eJ m x<;>rfl
theorem W3(t:TypeId)(x y m:Int):aD Tryz.prog 178 [.int .i64 m,.arr 0 0 2 2] [some (.cells t [.int .i64 x,.int .i64 y])] (.bool (!(eJ m x||eJ m y))) [some (.cells t [.int .i64 x,.int .i64 y])] []:=
 jU 4 p5 5 fun _ _ K hK=>by
  rw [Z9];simp only [vX];refine XR hK ?_;cases eJ m x<;>cases eJ m y<;>rfl
def WX :List SV->List (Option SB)->KC->Prop
 | [.int .i64 m,.ro n 1 g],[],K=>qC g/\K (.bool (!iE (fun i=>eJ m (px (g i))) n)) [] []
 | [.int .i64 m,.arr 0 0 1 1],[some (.cells t [.int .i64 x])],K=>K (.bool (!eJ m x)) [some (.cells t [.int .i64 x])] []
 | [.int .i64 m,.arr 0 0 2 2],[some (.cells t [.int .i64 x,.int .i64 y])],K=>K (.bool (!(eJ m x||eJ m y))) [some (.cells t [.int .i64 x,.int .i64 y])] []
 |_,_,_=>False
theorem ZG(xs:List SV)(σ:List (Option SB)):Sat Tryz.prog 178 xs σ (WX xs σ):=by
 intro K hK
 unfold WX at hK
 split at hK
 ·obtain ⟨hp,hK⟩:=hK
  refine ⟨_,_,_,hK, ?_⟩
  rw [vQ hp];apply aAt
 ·exact ⟨_,_,_,hK,YZ _ _ _⟩
 ·exact ⟨_,_,_,hK,W3 _ _ _ _⟩
 ·exact hK.elim
theorem R6(n:Nat)(g:Nat->List SV)(K:KC):run p5 2 174 [.ro n 1 g] [] K=
 (Br (decide (0<n)) ((∀(i:Nat),i<n->(g i).length=1/\(g i).all aW=true)/\(Br (true&&(decide (n*8<=1099511627776)&&decide (n<9223372036854775808))) (Br (decide (0<n)) (K (SV.own 0 0 1 n) [some (SB.row 22 1 n g)] []) (K (SV.arr 0 0 0 0) [some (SB.cells 22 [])] [])) (False))) (False)):=by kernel_rfl
theorem aAZ(K:KC):run p5 2 174 [.nils] [] K=
 (K SV.nils [] []):=by kernel_rfl
theorem Z6(K:KC):run p5 2 174 [.emp] [] K=
 (K (SV.arr 0 0 0 0) [some (SB.cells 22 [])] []):=by kernel_rfl
theorem TM(n:Nat)(g:Nat->List SV)(K:KC):run p5 2 175 [.ro n 1 g] [] K=
 (Br (decide (0<n)) ((∀(i:Nat),i<n->(g i).length=1/\(g i).all aW=true)/\(Br (true&&(decide (n*8<=1099511627776)&&decide (n<9223372036854775808))) (Br (decide (0<n)) (K (SV.own 0 0 1 n) [some (SB.row 3 1 n g)] []) (K (SV.arr 0 0 0 0) [some (SB.cells 3 [])] [])) (False))) (False)):=by kernel_rfl
theorem WS(K:KC):run p5 2 175 [.nils] [] K=
 (K SV.nils [] []):=by kernel_rfl
theorem ZI(K:KC):run p5 2 175 [.emp] [] K=
 (K (SV.arr 0 0 0 0) [some (SB.cells 3 [])] []):=by kernel_rfl
theorem V5(n:Nat)(g:Nat->List SV)(K:KC):run p5 2 147 [.ro n 2 g] [] K=
 (Br (decide (0<n)) ((∀(i:Nat),i<n->(g i).length=2/\(g i).all aW=true)/\(Br (true&&(decide (n*16<=1099511627776)&&decide (n<9223372036854775808))) (Br (decide (0<n)) (K (SV.own 0 0 2 n) [some (SB.row 24 2 n g)] []) (K (SV.arr 0 0 0 0) [some (SB.cells 24 [])] [])) (False))) (False)):=by kernel_rfl
theorem qT{g:Nat->List SV}(h:qC g): ∀i,(g i).length=1/\(g i).all aW=true:=fun i=>by rw [h i];exact ⟨rfl,rfl⟩
theorem TB{g:Nat->List SV}(h:pts g): ∀i,(g i).length=2/\(g i).all aW=true:=fun i=>by rw [h i];exact ⟨rfl,rfl⟩
theorem T5(n:Nat)(g:Nat->List SV)(hg:qC g)(hn:n<=1000000):aD Tryz.prog 174 [.ro n 1 g] [] (.ro n 1 g) [] []:=
 qU (fun i _=>(qT hg i).1) (fun h0=>aV p5 2 fun _ _ K hK=>by
   rw [R6]
   exact If.mk (decide_eq_true h0) ⟨fun i _=>qT hg i,If.mk (by simp only [Bool.and_eq_true,decide_eq_true_eq,Bool.true_and];omega) (Br.of (fun _=>hK) fun c=>absurd h0 (of_decide_eq_false c))⟩)
  (aV p5 2 fun _ _ K hK=>by rw [aAZ];exact hK) (aV p5 2 fun _ _ K hK=>by rw [Z6];exact hK)
theorem SL(n:Nat)(g:Nat->List SV)(hg:qC g)(hn:n<=1000000):aD Tryz.prog 175 [.ro n 1 g] [] (.ro n 1 g) [] []:=
 qU (fun i _=>(qT hg i).1) (fun h0=>aV p5 2 fun _ _ K hK=>by
   rw [TM]
   exact If.mk (decide_eq_true h0) ⟨fun i _=>qT hg i,If.mk (by simp only [Bool.and_eq_true,decide_eq_true_eq,Bool.true_and];omega) (Br.of (fun _=>hK) fun c=>absurd h0 (of_decide_eq_false c))⟩)
  (aV p5 2 fun _ _ K hK=>by rw [WS];exact hK) (aV p5 2 fun _ _ K hK=>by rw [ZI];exact hK)
theorem V6(n:Nat)(g:Nat->List SV)(hg:pts g)(h0:0<n)(hn:n<=1000000):aD Tryz.prog 147 [.ro n 2 g] [] (.own 0 0 2 n) [some (.row 24 2 n g)] []:=
 aV p5 2 fun _ _ K hK=>by
  rw [V5]
  exact If.mk (decide_eq_true h0) ⟨fun i _=>TB hg i,If.mk (by simp only [Bool.and_eq_true,decide_eq_true_eq,Bool.true_and];omega) (Br.of (fun _=>hK) fun c=>absurd h0 (of_decide_eq_false c))⟩
def tV :List SV->List (Option SB)->KC->Prop
 | [.ro n 1 g],[],K=>qC g/\n<=1000000/\K (.ro n 1 g) [] []
 |_,_,_=>False
theorem PL(xs:List SV)(σ:List (Option SB)):Sat Tryz.prog 174 xs σ (tV xs σ):=by
 intro K hK
 unfold tV at hK
 split at hK
 ·exact ⟨_,_,_,hK.2.2,T5 _ _ hK.1 hK.2.1⟩
 ·exact hK.elim
theorem PS(xs:List SV)(σ:List (Option SB)):Sat Tryz.prog 175 xs σ (tV xs σ):=by
 intro K hK
 unfold tV at hK
 split at hK
 ·exact ⟨_,_,_,hK.2.2,SL _ _ hK.1 hK.2.1⟩
 ·exact hK.elim
def IC :List SV->List (Option SB)->KC->Prop
 | [.ro n 2 g],[],K=>pts g/\(0<n/\n<=1000000)/\K (.own 0 0 2 n) [some (.row 24 2 n g)] []
 |_,_,_=>False
theorem MP(xs:List SV)(σ:List (Option SB)):Sat Tryz.prog 147 xs σ (IC xs σ):=by
 intro K hK
 unfold IC at hK
 split at hK
 ·exact ⟨_,_,_,hK.2.2,V6 _ _ hK.1 hK.2.1.1 hK.2.1.2⟩
 ·exact hK.elim
def CF :List SV->List (Option SB)->KC->Prop
 | [.agg [.int .i64 a0,.int .i64 a1,.int .i64 a2,.int .i64 a3,.int .i64 a4,.int .i64 a5,.ro nh 1 h,.ro ng 1 g,.ro nk 3 kg,.ro nl 2 l,.ro nr 1 rl,.ro nt 5 gt,.int .i64 sx,.int .i64 sy,.int .u32 hd,.int .i64 lp]],[],K=>kE h g kg l rl gt/\K (.bool (lK a2 a3 nh ng nk)) [] []
 |_,_,_=>False
theorem LM(xs:List SV)(σ:List (Option SB)):Sat Tryz.prog 173 xs σ (CF xs σ):=by
 intro K hK
 unfold CF at hK
 split at hK
 ·refine ⟨_,_,_,hK.2, ?_⟩
  rw [k9 hK.1]
  exact MM _
 ·exact hK.elim
noncomputable def p7 :bT Tryz.prog:=(((((p6).add 178 WX ZG).add 174 tV PL).add 175 tV PS).add 147 IC MP).add 173 CF LM
end Go.Proofs.YtghnfjfkjhbgdaaGreatDoor
namespace Go.Proofs.YtghnfjfkjhbgdaaGreatDoor
open Go.Se
set_option maxRecDepth 100000
abbrev Q7 :FuncId:=179
def B1 :List (Nat×eR):=[(0,⟨[0,2,3,14,15,16],[0],[],1,[]⟩)]
def A2(cell cols rows cx cy:Int)(n:Nat)(h:Nat->Int)(ng:Nat)(g:Nat->Int):List SV:=[.int .i64 cell,.int .i64 cols,.int .i64 rows,.int .i64 cx,.int .i64 cy,.ro n 1 (aP h),.ro ng 1 (aP g)]
def LU(cell cols rows cx cy:Int)(n:Nat)(h:Nat->Int)(ng:Nat)(g:Nat->Int)(w i:Int):St:=
 ⟨[(0,.ptr 0 0),(2,.bool false),(3,.int .i64 w),(14,.ro n 1 (aP h)),(15,.int .i64 n),(16,.int .i64 i)],[(0,some (.cells 245 (A2 cell cols rows cx cy n h ng g)))],1,[],75⟩
noncomputable abbrev I2 :Env:=fW B1 (fun _=>0) p7 1
abbrev K6 :List Nat:=[1,1,0,1,0]
theorem SQ(cell cols rows cx cy:Int)(n:Nat)(h:Nat->Int)(ng:Nat)(g:Nat->Int)(K:KC):eA B1 (fun _=>0) p7 2 Q7 [.ptr 0 0] [some (.cells 245 (A2 cell cols rows cx cy n h ng g))] K=
  ∃k,bO I2 (aB B1 1) Tryz.f179 K6 0 1 K k (LU cell cols rows cx cy n h ng g (IntKind.i64.wrap (cols+1)) 0):=by kernel_rfl
theorem E7(cell cols rows cx cy:Int)(n:Nat)(h:Nat->Int)(ng:Nat)(g:Nat->Int)(w:Int)(i:Nat)(K:Ex->St->Prop):aF I2 (aB B1 1) Tryz.f179 K6 0 K (LU cell cols rows cx cy n h ng g w i)=
 (Br (decide ((↑i:Int)<(↑n:Int))) (Br (decide (0<=(↑i:Int))&&decide ((↑i:Int)<(↑n:Int))) (Br (w !=0) (Br ((IntKind.i64.wrap ((↑i:Int)+1)).tmod w !=0) (Br (decide (0<=IntKind.i64.wrap ((↑i:Int)+1))&&decide (IntKind.i64.wrap ((↑i:Int)+1)<(↑n:Int))) (Br (!!eJ cell (IntKind.i64.wrap (h (IntKind.i64.wrap ((↑i:Int)+1)).toNat - h (↑i:Int).toNat))) (K Ex.ret {tmps:=[(0,SV.ptr 0 0),(2,SV.bool false),(3,SV.int .i64 w),(14,SV.ro n 1 (aP h)),(15,SV.int .i64 (↑n:Int)),(16,SV.int .i64 (↑i:Int))],store:=[(0,some (SB.cells 245 [SV.int .i64 cell,SV.int .i64 cols,SV.int .i64 rows,SV.int .i64 cx,SV.int .i64 cy,SV.ro n 1 (aP h),SV.ro ng 1 (aP g)]))],nxt:=1,dirty:=[],nt:=75}) (Br (decide (IntKind.i64.wrap ((↑i:Int)+w)<(↑n:Int))) (Br (decide (0<=IntKind.i64.wrap ((↑i:Int)+w))&&decide (IntKind.i64.wrap ((↑i:Int)+w)<(↑n:Int))) (Br (!!eJ cell (IntKind.i64.wrap (h (IntKind.i64.wrap ((↑i:Int)+w)).toNat - h (↑i:Int).toNat))) (K Ex.ret {tmps:=[(0,SV.ptr 0 0),(2,SV.bool false),(3,SV.int .i64 w),(14,SV.ro n 1 (aP h)),(15,SV.int .i64 (↑n:Int)),(16,SV.int .i64 (↑i:Int))],store:=[(0,some (SB.cells 245 [SV.int .i64 cell,SV.int .i64 cols,SV.int .i64 rows,SV.int .i64 cx,SV.int .i64 cy,SV.ro n 1 (aP h),SV.ro ng 1 (aP g)]))],nxt:=1,dirty:=[],nt:=75}) (K Ex.normal {tmps:=[(0,SV.ptr 0 0),(2,SV.bool false),(3,SV.int .i64 w),(14,SV.ro n 1 (aP h)),(15,SV.int .i64 (↑n:Int)),(16,SV.int .i64 (IntKind.i64.wrap ((↑i:Int)+1)))],store:=[(0,some (SB.cells 245 [SV.int .i64 cell,SV.int .i64 cols,SV.int .i64 rows,SV.int .i64 cx,SV.int .i64 cy,SV.ro n 1 (aP h),SV.ro ng 1 (aP g)]))],nxt:=1,dirty:=[],nt:=75})) (False)) (K Ex.normal {tmps:=[(0,SV.ptr 0 0),(2,SV.bool false),(3,SV.int .i64 w),(14,SV.ro n 1 (aP h)),(15,SV.int .i64 (↑n:Int)),(16,SV.int .i64 (IntKind.i64.wrap ((↑i:Int)+1)))],store:=[(0,some (SB.cells 245 [SV.int .i64 cell,SV.int .i64 cols,SV.int .i64 rows,SV.int .i64 cx,SV.int .i64 cy,SV.ro n 1 (aP h),SV.ro ng 1 (aP g)]))],nxt:=1,dirty:=[],nt:=75}))) (False)) (Br (decide (IntKind.i64.wrap ((↑i:Int)+w)<(↑n:Int))) (Br (decide (0<=IntKind.i64.wrap ((↑i:Int)+w))&&decide (IntKind.i64.wrap ((↑i:Int)+w)<(↑n:Int))) (Br (!!eJ cell (IntKind.i64.wrap (h (IntKind.i64.wrap ((↑i:Int)+w)).toNat - h (↑i:Int).toNat))) (K Ex.ret {tmps:=[(0,SV.ptr 0 0),(2,SV.bool false),(3,SV.int .i64 w),(14,SV.ro n 1 (aP h)),(15,SV.int .i64 (↑n:Int)),(16,SV.int .i64 (↑i:Int))],store:=[(0,some (SB.cells 245 [SV.int .i64 cell,SV.int .i64 cols,SV.int .i64 rows,SV.int .i64 cx,SV.int .i64 cy,SV.ro n 1 (aP h),SV.ro ng 1 (aP g)]))],nxt:=1,dirty:=[],nt:=75}) (K Ex.normal {tmps:=[(0,SV.ptr 0 0),(2,SV.bool false),(3,SV.int .i64 w),(14,SV.ro n 1 (aP h)),(15,SV.int .i64 (↑n:Int)),(16,SV.int .i64 (IntKind.i64.wrap ((↑i:Int)+1)))],store:=[(0,some (SB.cells 245 [SV.int .i64 cell,SV.int .i64 cols,SV.int .i64 rows,SV.int .i64 cx,SV.int .i64 cy,SV.ro n 1 (aP h),SV.ro ng 1 (aP g)]))],nxt:=1,dirty:=[],nt:=75})) (False)) (K Ex.normal {tmps:=[(0,SV.ptr 0 0),(2,SV.bool false),(3,SV.int .i64 w),(14,SV.ro n 1 (aP h)),(15,SV.int .i64 (↑n:Int)),(16,SV.int .i64 (IntKind.i64.wrap ((↑i:Int)+1)))],store:=[(0,some (SB.cells 245 [SV.int .i64 cell,SV.int .i64 cols,SV.int .i64 rows,SV.int .i64 cx,SV.int .i64 cy,SV.ro n 1 (aP h),SV.ro ng 1 (aP g)]))],nxt:=1,dirty:=[],nt:=75}))) (False)) (False)) (K (Ex.exit 0) {tmps:=[(0,SV.ptr 0 0),(2,SV.bool false),(3,SV.int .i64 w),(14,SV.ro n 1 (aP h)),(15,SV.int .i64 (↑n:Int)),(16,SV.int .i64 (↑i:Int))],store:=[(0,some (SB.cells 245 [SV.int .i64 cell,SV.int .i64 cols,SV.int .i64 rows,SV.int .i64 cx,SV.int .i64 cy,SV.ro n 1 (aP h),SV.ro ng 1 (aP g)]))],nxt:=1,dirty:=[],nt:=75})):=by kernel_rfl
theorem aBF(cell cols rows cx cy:Int)(n:Nat)(h:Nat->Int)(ng:Nat)(g:Nat->Int)(w i:Int)(K:KC):aE I2 (aB B1 1) Tryz.f179 K6 1 K .ret (LU cell cols rows cx cy n h ng g w i)=
 (K (SV.bool false) [some (SB.cells 245 [SV.int .i64 cell,SV.int .i64 cols,SV.int .i64 rows,SV.int .i64 cx,SV.int .i64 cy,SV.ro n 1 (aP h),SV.ro ng 1 (aP g)])] []):=by kernel_rfl
theorem TS(cell cols rows cx cy:Int)(n:Nat)(h:Nat->Int)(ng:Nat)(g:Nat->Int)(w i:Int)(K:KC):aE I2 (aB B1 1) Tryz.f179 K6 1 K (.exit 0) (LU cell cols rows cx cy n h ng g w i)=
 (K (SV.bool true) [some (SB.cells 245 [SV.int .i64 cell,SV.int .i64 cols,SV.int .i64 rows,SV.int .i64 cx,SV.int .i64 cy,SV.ro n 1 (aP h),SV.ro ng 1 (aP g)])] []):=by kernel_rfl
theorem aD8(cell cols rows cx cy:Int)(n:Nat)(h:Nat->Int)(ng:Nat)(g:Nat->Int)(w R:Nat)(hw:cols+1=(w:Int))(hw1:1<=w)(hw2:w<=65)(hn:n=w*R)(hn':n<=1000000):
  aD Tryz.prog Q7 [.ptr 0 0] [some (.cells 245 (A2 cell cols rows cx cy n h ng g))] (.bool (!iE (lT h cell w n) n)) [some (.cells 245 (A2 cell cols rows cx cy n h ng g))] []:=
 iC B1 (fun _=>0) p7 2 (fun _ h=>nomatch h) fun _ _ K hK=>by
  have hK:=hK [] fun _ h=>nomatch h
  rw [SQ,hw,JC (by omega)]
  refine ⟨n+1,iQ (fun i:Nat=>LU cell cols rows cx cy n h ng g w i) n (fun i=> ∀j,j<i->lT h cell w n j=false) (fun i hi hI X hX=> ?_) (fun hI X=> ?_) (fun j hj=>absurd hj (Nat.not_lt_zero j))⟩
  ·have hret:lT h cell w n i=true->eT X (aE I2 (aB B1 1) Tryz.f179 K6 1 K) .ret (LU cell cols rows cx cy n h ng g w i):=fun hs=>by
    show aE I2 (aB B1 1) Tryz.f179 K6 1 K .ret _
    rw [aBF]
    rw [show iE (lT h cell w n) n=true from sA.2 ⟨i,hi,hs⟩] at hK
    exact hK
   have hnext:lT h cell w n i=false->eT X (aE I2 (aB B1 1) Tryz.f179 K6 1 K) .normal (LU cell cols rows cx cy n h ng g w (i+1:Nat)):=fun hs=>by
    refine hX fun j hj=> ?_
    rcases Nat.lt_or_eq_of_le (Nat.le_of_lt_succ hj) with hj|rfl
    ·exact hI j hj
    ·exact hs
   have hend:(i+1)%w≠0->i+1<n:=fun h1=>by
    rcases Nat.lt_or_eq_of_le (Nat.succ_le_of_lt hi) with h2|h2
    ·exact h2
    ·rw [show i+1=n from h2,hn,Nat.mul_mod_right] at h1
     exact absurd rfl h1
   rw [E7,aO (n:=n) hi (by omega),show (i:Int)+(w:Int)=((i+w:Nat):Int) by omega,JC (n:=i+w) (by omega),ZX,RA,RA]
   simp only [Int.toNat_natCast,Bool.not_not]
   unfold lT at hret hnext
   refine Br.of (fun _=>Br.of (fun _=>Br.of (fun _=>Br.of (fun c1=>Br.of (fun _=>Br.of (fun c2=> ?_) fun c2=>Br.of (fun c3=>Br.of (fun _=>Br.of (fun c4=> ?_) fun c4=> ?_) fun c=> ?_) fun c3=> ?_) fun c=> ?_) fun c1=>Br.of (fun c3=>Br.of (fun _=>Br.of (fun c4=> ?_) fun c4=> ?_) fun c=> ?_) fun c3=> ?_) fun c=> ?_) fun c=> ?_) fun c=> ?_
   ·exact hret (by rw [c1,c2];rfl)
   ·exact hret (by rw [c4,show decide (i+w<n)=true from decide_eq_true (by have:=of_decide_eq_true c3;omega),Bool.true_and,Bool.or_true])
   ·exact hnext (by rw [c2,c4,Bool.and_false,Bool.and_false];rfl)
   ·have:=of_decide_eq_true c3
    simp only [Bool.and_eq_false_iff,decide_eq_false_iff_not] at c;omega
   ·exact hnext (by rw [c2,show decide (i+w<n)=false from decide_eq_false (by have:=of_decide_eq_false c3;omega),Bool.and_false];rfl)
   ·have:=hend (of_decide_eq_true c1)
    simp only [Bool.and_eq_false_iff,decide_eq_false_iff_not] at c;omega
   ·exact hret (by rw [c4,show decide (i+w<n)=true from decide_eq_true (by have:=of_decide_eq_true c3;omega),Bool.true_and,Bool.or_true])
   ·exact hnext (by rw [c1,c4,Bool.and_false];rfl)
   ·have:=of_decide_eq_true c3
    simp only [Bool.and_eq_false_iff,decide_eq_false_iff_not] at c;omega
   ·exact hnext (by rw [c1,show decide (i+w<n)=false from decide_eq_false (by have:=of_decide_eq_false c3;omega)];rfl)
   ·have:=of_decide_eq_false c;omega
   ·simp only [Bool.and_eq_false_iff,decide_eq_false_iff_not] at c;omega
   ·have:=of_decide_eq_false c;omega
  ·rw [E7]
   refine Br.of (fun c=>absurd (of_decide_eq_true c) (by omega)) fun _=> ?_
   show aE I2 (aB B1 1) Tryz.f179 K6 1 K (.exit 0) (LU cell cols rows cx cy n h ng g w n)
   rw [TS]
   rw [show iE (lT h cell w n) n=false from kT.2 hI] at hK
   exact hK
def GQ :List SV->List (Option SB)->KC->Prop
 | [.ptr 0 0],[some (.cells 245 [.int .i64 cell,.int .i64 cols,.int .i64 rows,.int .i64 cx,.int .i64 cy,.ro n 1 h,.ro ng 1 g])],K=>(qC h/\qC g)/\(∃R:Nat,(0<=cols/\cols<=64)/\n=(cols+1).toNat*R/\n<=1000000)/\
  K (.bool (!iE (lT (fun i=>px (h i)) cell (cols+1).toNat n) n)) [some (.cells 245 [.int .i64 cell,.int .i64 cols,.int .i64 rows,.int .i64 cx,.int .i64 cy,.ro n 1 h,.ro ng 1 g])] []
 |_,_,_=>False
theorem PC(xs:List SV)(σ:List (Option SB)):Sat Tryz.prog Q7 xs σ (GQ xs σ):=by
 intro K hK
 unfold GQ at hK
 split at hK
 ·rename_i cell cols rows cx cy n h ng g
  obtain ⟨⟨e1,e2⟩,⟨R,h1,h2,h3⟩,hK⟩:=hK
  refine ⟨_,_,_,hK, ?_⟩
  have:=aD8 cell cols rows cx cy n (fun i=>px (h i)) ng (fun i=>px (g i)) (cols+1).toNat R (by omega) (by omega) (by omega) h2 h3
  unfold A2 at this
  rw [<- vQ e1,<- vQ e2] at this
  exact this
 ·exact hK.elim
noncomputable def p8 :bT Tryz.prog:=(p7).add Q7 GQ PC
theorem aCJ(t:Trk)(K:KC):run p8 4 141 [.agg (aM t)] [] K=
 ((kE (aP t.h) (aP t.g) (eY t) (bS t.lx t.ly) (cH t) (eV t))/\(Br (!lK t.cols t.rows t.nh t.ng t.nk) (K (SV.tup [SV.nilp,SV.int .i64 42]) [] []) ((qC (aP t.h))/\((t.nh<=1000000)/\((qC (aP t.g))/\((t.ng<=1000000)/\(Br (decide (t.cell<17179869184)) (K (SV.tup [SV.nilp,SV.int .i64 40]) [] []) (Br (decide (t.cell>274877906944)) (K (SV.tup [SV.nilp,SV.int .i64 40]) [] []) (Br (!!(eJ 140737488355328 t.cx||eJ 140737488355328 t.cy)) (K (SV.tup [SV.nilp,SV.int .i64 40]) [] []) ((qC (aP t.h))/\(Br (!!iE (fun (i:Nat)=>eJ 2199023255552 (px (aP t.h i))) t.nh) (K (SV.tup [SV.nilp,SV.int .i64 40]) [] []) ((qC (aP t.h)/\qC (aP t.g))/\((∃(R:Nat),(0<=t.cols/\t.cols<=64)/\t.nh=(t.cols+1).toNat*R/\t.nh<=1000000)/\(Br (!!iE (lT (fun (i:Nat)=>px (aP t.h i)) t.cell (t.cols+1).toNat t.nh) t.nh) (K (SV.tup [SV.nilp,SV.int .i64 40]) [] []) ((qC (aP t.g))/\(Br (decide (jM (fun (i:Nat)=>uK t.nk (px (aP t.g i))) t.ng 0>=0)) (K (SV.tup [SV.nilp,SV.int .i64 40]) [] []) ((H7 (eY t))/\(Br (decide (jM (fun (i:Nat)=>EC (px (eY t i)) (py (eY t i))) t.nk 0>=0)) (K (SV.tup [SV.nilp,SV.int .i64 40]) [] []) (K (SV.tup [SV.ptr 0 0,SV.int .i64 0]) [some (SB.cells 245 [SV.int .i64 t.cell,SV.int .i64 t.cols,SV.int .i64 t.rows,SV.int .i64 t.cx,SV.int .i64 t.cy,SV.ro t.nh 1 (aP t.h),SV.ro t.ng 1 (aP t.g)])] []))))))))))))))))))):=by kernel_rfl
def M4(t:Trk)(K:KC):Prop:=
 Br (oP t==0) (K (.tup [.ptr 0 0,.int .i64 0]) [some (.cells 245 [.int .i64 t.cell,.int .i64 t.cols,.int .i64 t.rows,.int .i64 t.cx,.int .i64 t.cy,.ro t.nh 1 (aP t.h),.ro t.ng 1 (aP t.g)])] []) (K (.tup [.nilp,.int .i64 (oP t)]) [] [])
theorem W5(t:Trk)(K:KC)(hK:M4 t K):run p8 4 141 [.agg (aM t)] [] K:=by
 rw [aCJ]
 refine ⟨fT t, ?_⟩
 unfold M4 oP at hK
 refine Br.of (fun c=> ?_) fun c=> ?_
 ·rw [Bool.not_eq_true'] at c
  rw [c] at hK
  exact hK
 ·rw [Bool.not_eq_false'] at c
  rw [c] at hK
  obtain ⟨⟨h1,_,_⟩,_,_,h2,h3,h4⟩:=uE c
  refine ⟨fun _=>rfl,by omega,fun _=>rfl,by omega, ?_⟩
  simp only [cond_true] at hK
  have bad:mN t=true->K (SV.tup [SV.nilp,SV.int .i64 40]) [] []:=fun h=>by rw [h] at hK;exact hK
  unfold mN at bad
  refine Br.of (fun c1=>bad (by rw [c1];rfl)) fun c1=>Br.of (fun c2=>bad (by rw [c2];exact Bool.or_true _)) fun c2=> ?_
  refine Br.of (fun c3=>bad (by rw [Bool.not_not] at c3;rw [c3,Bool.true_or,Bool.or_true,Bool.or_true])) fun c3=>⟨fun _=>rfl, ?_⟩
  rw [Bool.not_not] at c3
  refine Br.of (fun c4=>bad ?_) fun c4=>⟨⟨fun _=>rfl,fun _=>rfl⟩,⟨(t.rows+1).toNat,by omega,h2,by omega⟩, ?_⟩
  ·rw [Bool.not_not] at c4
   have c4':iE (fun i=>eJ 2199023255552 (t.h i)) t.nh=true:=c4
   rw [c4',Bool.true_or,Bool.or_true,Bool.or_true,Bool.or_true]
  rw [Bool.not_not] at c4
  have c4':iE (fun i=>eJ 2199023255552 (t.h i)) t.nh=false:=c4
  refine Br.of (fun c5=>bad ?_) fun c5=>⟨fun _=>rfl, ?_⟩
  ·rw [Bool.not_not] at c5
   have c5':iE (lT t.h t.cell (t.cols+1).toNat t.nh) t.nh=true:=c5
   rw [c5',Bool.true_or,Bool.or_true,Bool.or_true,Bool.or_true,Bool.or_true]
  rw [Bool.not_not] at c5
  have c5':iE (lT t.h t.cell (t.cols+1).toNat t.nh) t.nh=false:=c5
  refine Br.of (fun c6=>bad ?_) fun c6=>⟨fun _=>rfl, ?_⟩
  ·have c6':iE (fun i=>uK t.nk (t.g i)) t.ng=true:=c6
   rw [c6',Bool.true_or,Bool.or_true,Bool.or_true,Bool.or_true,Bool.or_true,Bool.or_true]
  have c6':iE (fun i=>uK t.nk (t.g i)) t.ng=false:=c6
  refine Br.of (fun c7=>bad ?_) fun c7=> ?_
  ·have c7':iE (fun i=>EC (t.kg i) (t.kd i)) t.nk=true:=c7
   rw [c7',Bool.or_true,Bool.or_true,Bool.or_true,Bool.or_true,Bool.or_true,Bool.or_true]
  have c7':iE (fun i=>EC (t.kg i) (t.kd i)) t.nk=false:=c7
  rw [show mN t=false by unfold mN;rw [c1,c2,c3,c4',c5',c6',c7'];rfl] at hK
  exact hK
def aAP :List SV->List (Option SB)->KC->Prop
 | [.agg [.int .i64 a0,.int .i64 a1,.int .i64 a2,.int .i64 a3,.int .i64 a4,.int .i64 a5,.ro nh 1 h,.ro ng 1 g,.ro nk 3 kg,.ro nl 2 l,.ro nr 1 rl,.ro nt 5 gt,.int .i64 sx,.int .i64 sy,.int .u32 hd,.int .i64 lp]],[],K=>kE h g kg l rl gt/\M4 (mC a0 a1 a2 a3 a4 a5 nh h ng g nk kg nl l nr rl nt gt sx sy hd lp) K
 |_,_,_=>False
theorem aAc(xs:List SV)(σ:List (Option SB)):Sat Tryz.prog 141 xs σ (aAP xs σ):=by
 intro K hK
 unfold aAP at hK
 split at hK
 ·rw [k9 hK.1]
  exact bX (env:=tab.env p8 (fun _=>0) (fun _=>false)) ⟨tab.htt,p8.ok⟩ tab.mixed (fun n=>bC n []) tab.hft 4 _ _ _ K (W5 _ K hK.2)
 ·exact hK.elim
end Go.Proofs.YtghnfjfkjhbgdaaGreatDoor
namespace Go.Proofs.YtghnfjfkjhbgdaaGreatDoor
open Go.Se
set_option maxRecDepth 100000
abbrev aCP :FuncId:=146
def cpR :List (Nat×eR):=[(0,⟨[0,2,3],[0],[0],1,[]⟩),(2,⟨[0,2,3,4,5],[0],[0],1,[]⟩)]
def cpS(n:Nat)(X Y:Nat->Int)(k:Int):St:=⟨[(0,.own 0 0 2 n),(2,.nils),(3,.int .i64 k)],[(0,some (.row 24 2 n (bE X Y)))],1,[0],61⟩
def cpT(n k0:Nat)(X Y:Nat->Int)(k k2:Int):St:=⟨[(0,.own 0 0 2 n),(2,.nils),(3,.int .i64 k),(4,.own 0 k0 2 (n - k0)),(5,.int .i64 k2)],[(0,some (.row 24 2 n (bE X Y)))],1,[0],61⟩
noncomputable abbrev cpE :Env:=fW cpR (fun _=>0) p8 1
abbrev cpP :List Nat:=[1,1,0,1,0]
abbrev cpI :List Nat:=[1,0,0,1,0,1,0,1,0]
noncomputable abbrev cpF :Func:=Tryz.f146
theorem aAi(n:Nat)(X Y:Nat->Int)(K:KC):eA cpR (fun _=>0) p8 2 aCP [.own 0 0 2 n] [some (.row 24 2 n (bE X Y))] K=
 (Br (decide ((↑n:Int)<2)) (K (SV.own 0 0 2 n) [some (SB.row 24 2 n (bE X Y))] []) (∃q_,bO cpE (aB cpR 1) cpF cpP 0 1 K q_ {tmps:=[(0,SV.own 0 0 2 n),(2,SV.nils),(3,SV.int .i64 1)],store:=[(0,some (SB.row 24 2 n (bE X Y)))],nxt:=1,dirty:=[0],nt:=61})):=by kernel_rfl
theorem YQ(n:Nat)(X Y:Nat->Int)(k:Nat)(K:Ex->St->Prop):aF cpE (aB cpR 1) cpF cpP 0 K (cpS n X Y k)=
 (Br (decide ((↑k:Int)<(↑n:Int))) (Br (decide (0<=(↑k:Int))&&decide ((↑k:Int)<(↑n:Int))) (Br (decide (0+(↑k:Int).toNat<n)) (Br (decide (0<=IntKind.i64.wrap ((↑k:Int) - 1))&&decide (IntKind.i64.wrap ((↑k:Int) - 1)<(↑n:Int))) (Br (decide (0+(IntKind.i64.wrap ((↑k:Int) - 1)).toNat<n)) (Br (X (0+(↑k:Int).toNat)==X (0+(IntKind.i64.wrap ((↑k:Int) - 1)).toNat)&&Y (0+(↑k:Int).toNat)==Y (0+(IntKind.i64.wrap ((↑k:Int) - 1)).toNat)) (Br (decide (0<=(↑k:Int))&&(decide ((↑k:Int)<=(↑n:Int))&&decide ((↑n:Int)<=(↑n:Int)))&&decide (n<9223372036854775808)) (Br (decide ((↑k:Int)<(↑n:Int))) (∃q_,iter (aF cpE (aB cpR 1) cpF (cpP++[0]++cpI) 2) (jI cpE (aB cpR 1) cpF cpP 0 cpI K) q_ {tmps:=[(0,SV.own 0 0 2 n),(2,SV.nils),(3,SV.int .i64 (↑k:Int)),(4,SV.own 0 (0+(↑k:Int).toNat) 2 ((↑n:Int).toNat - (↑k:Int).toNat)),(5,SV.int .i64 1)],store:=[(0,some (SB.row 24 2 n (bE X Y)))],nxt:=1,dirty:=[0],nt:=61}) (∃q_,iter (aF cpE (aB cpR 1) cpF (cpP++[0]++cpI) 2) (jI cpE (aB cpR 1) cpF cpP 0 cpI K) q_ {tmps:=[(0,SV.own 0 0 2 n),(2,SV.nils),(3,SV.int .i64 (↑k:Int)),(4,SV.ro 0 2 fun (x:Nat)=>[]),(5,SV.int .i64 1)],store:=[(0,some (SB.row 24 2 n (bE X Y)))],nxt:=1,dirty:=[0],nt:=61})) (False)) (K Ex.normal {tmps:=[(0,SV.own 0 0 2 n),(2,SV.nils),(3,SV.int .i64 (IntKind.i64.wrap ((↑k:Int)+1)))],store:=[(0,some (SB.row 24 2 n (bE X Y)))],nxt:=1,dirty:=[0],nt:=61})) (False)) (False)) (False)) (False)) (K (Ex.exit 0) {tmps:=[(0,SV.own 0 0 2 n),(2,SV.nils),(3,SV.int .i64 (↑k:Int))],store:=[(0,some (SB.row 24 2 n (bE X Y)))],nxt:=1,dirty:=[0],nt:=61})):=by kernel_rfl
theorem aGl(n k0:Nat)(X Y:Nat->Int)(k k2:Nat)(K:Ex->St->Prop):aF cpE (aB cpR 1) cpF (cpP++[0]++cpI) 2 K (cpT n k0 X Y k k2)=
 (Br (decide ((↑k2:Int)<(↑(n - k0):Int))) (Br (decide (0<=(↑k2:Int))&&decide ((↑k2:Int)<(↑(n - k0):Int))) (Br (decide (k0+(↑k2:Int).toNat<n)) (Br (decide (0<=IntKind.i64.wrap ((↑k2:Int) - 1))&&decide (IntKind.i64.wrap ((↑k2:Int) - 1)<(↑(n - k0):Int))) (Br (decide (k0+(IntKind.i64.wrap ((↑k2:Int) - 1)).toNat<n)) (Br (!(X (k0+(↑k2:Int).toNat)==X (k0+(IntKind.i64.wrap ((↑k2:Int) - 1)).toNat)&&Y (k0+(↑k2:Int).toNat)==Y (k0+(IntKind.i64.wrap ((↑k2:Int) - 1)).toNat))) (Br (decide (0<=(↑k2:Int))&&decide ((↑k2:Int)<(↑(n - k0):Int))) (Br (decide (k0+(↑k2:Int).toNat<n)) (Br (decide (0<=(↑k:Int))&&decide ((↑k:Int)<(↑n:Int))) (Br (decide (0+(↑k:Int).toNat<n)) (K Ex.normal {tmps:=[(0,SV.own 0 0 2 n),(2,SV.nils),(3,SV.int .i64 (IntKind.i64.wrap ((↑k:Int)+1))),(4,SV.own 0 k0 2 (n - k0)),(5,SV.int .i64 (IntKind.i64.wrap ((↑k2:Int)+1)))],store:=[(0,some (SB.row 24 2 n (bI (0+(↑k:Int).toNat) [SV.int .i64 (X (k0+(↑k2:Int).toNat)),SV.int .i64 (Y (k0+(↑k2:Int).toNat))] (bE X Y))))],nxt:=1,dirty:=[0],nt:=61}) (False)) (False)) (False)) (False)) (K Ex.normal {tmps:=[(0,SV.own 0 0 2 n),(2,SV.nils),(3,SV.int .i64 (↑k:Int)),(4,SV.own 0 k0 2 (n - k0)),(5,SV.int .i64 (IntKind.i64.wrap ((↑k2:Int)+1)))],store:=[(0,some (SB.row 24 2 n (bE X Y)))],nxt:=1,dirty:=[0],nt:=61})) (False)) (False)) (False)) (False)) (K (Ex.exit 2) {tmps:=[(0,SV.own 0 0 2 n),(2,SV.nils),(3,SV.int .i64 (↑k:Int)),(4,SV.own 0 k0 2 (n - k0)),(5,SV.int .i64 (↑k2:Int))],store:=[(0,some (SB.row 24 2 n (bE X Y)))],nxt:=1,dirty:=[0],nt:=61})):=by kernel_rfl
theorem aC2(n k0:Nat)(X Y:Nat->Int)(k k2:Nat)(K:Ex->St->Prop):jI cpE (aB cpR 1) cpF cpP 0 cpI K (.exit 2) (cpT n k0 X Y k k2)=
 (Br (decide (0<=(↑k:Int))&&(decide ((↑k:Int)<=(↑n:Int))&&decide ((↑n:Int)<=(↑n:Int)))&&decide (n<9223372036854775808)) (Br (decide ((↑k:Int)<(↑n:Int))) (Br (true&&(decide (0<=(↑k:Int))&&decide ((↑k:Int)<=(↑n:Int)))&&decide (n<9223372036854775808)) (Br (decide (0<(↑k:Int))) (K Ex.ret {tmps:=[(0,SV.own 0 0 2 n),(2,SV.own 0 0 2 ((↑k:Int).toNat - 0)),(3,SV.int .i64 (↑k:Int))],store:=[(0,none)],nxt:=1,dirty:=[0],nt:=61}) (K Ex.ret {tmps:=[(0,SV.own 0 0 2 n),(2,SV.ro 0 2 fun (x:Nat)=>[]),(3,SV.int .i64 (↑k:Int))],store:=[(0,none)],nxt:=1,dirty:=[0],nt:=61})) (False)) (Br (true&&(decide (0<=(↑k:Int))&&decide ((↑k:Int)<=(↑n:Int)))&&decide (n<9223372036854775808)) (Br (decide (0<(↑k:Int))) (K Ex.ret {tmps:=[(0,SV.own 0 0 2 n),(2,SV.own 0 0 2 ((↑k:Int).toNat - 0)),(3,SV.int .i64 (↑k:Int))],store:=[(0,some (SB.row 24 2 n (bE X Y)))],nxt:=1,dirty:=[0],nt:=61}) (K Ex.ret {tmps:=[(0,SV.own 0 0 2 n),(2,SV.ro 0 2 fun (x:Nat)=>[]),(3,SV.int .i64 (↑k:Int))],store:=[(0,some (SB.row 24 2 n (bE X Y)))],nxt:=1,dirty:=[0],nt:=61})) (False))) (False)):=by kernel_rfl
theorem WL(n:Nat)(X Y:Nat->Int)(k:Nat)(K:KC):aE cpE (aB cpR 1) cpF cpP 1 K (.exit 0) (cpS n X Y k)=
 (K (SV.own 0 0 2 n) [some (SB.row 24 2 n (bE X Y))] [0]):=by kernel_rfl
theorem aEY(n m:Nat)(k:Int)(K:KC):aE cpE (aB cpR 1) cpF cpP 1 K .ret ⟨[(0,.own 0 0 2 n),(2,.own 0 0 2 m),(3,.int .i64 k)],[(0,none)],1,[0],61⟩=K (.own 0 0 2 m) [none] [0]:=by kernel_rfl
theorem aAT (n k0:Nat) (hn:n<9223372036854775808) (hk0:1<=k0) (K:Ex->St->Prop)
  (hK: ∀m,m<n->K .ret ⟨[(0,.own 0 0 2 n),(2,.own 0 0 2 m),(3,.int .i64 m)],[(0,none)],1,[0],61⟩):
  ∀(f:Nat) (a:Nat×Nat×(Nat->Int)×(Nat->Int)),((k0<=a.1/\a.1<k0+a.2.1)/\1<=a.2.1/\a.2.1<=n - k0)->n - k0 - a.2.1<f->
   iter (aF cpE (aB cpR 1) cpF (cpP++[0]++cpI) 2) (jI cpE (aB cpR 1) cpF cpP 0 cpI K) f (cpT n k0 a.2.2.1 a.2.2.2 a.1 a.2.1):=
 gV (fun a:Nat×Nat×(Nat->Int)×(Nat->Int)=>cpT n k0 a.2.2.1 a.2.2.2 a.1 a.2.1) (fun a=>n - k0 - a.2.1) (fun a=>(k0<=a.1/\a.1<k0+a.2.1)/\1<=a.2.1/\a.2.1<=n - k0)
  (fun a=>by
   obtain ⟨k,k2,X,Y⟩:=a
   rintro ⟨⟨h1,h2⟩,h3,h4⟩ Z hZ
   simp only at h1 h2 h3 h4
   show aF cpE (aB cpR 1) cpF (cpP++[0]++cpI) 2 _ (cpT n k0 X Y k k2)
   rw [aGl,E1 h3 (by omega)]
   simp only [Int.toNat_natCast,Nat.zero_add]
   refine Br.of (fun c1=> ?_) fun c1=> ?_
   ·have c1':=of_decide_eq_true c1
    refine Br.of (fun _=>Br.of (fun _=>Br.of (fun _=>Br.of (fun _=>Br.of (fun _=>Br.of (fun _=>Br.of (fun _=>Br.of (fun _=>Br.of (fun _=> ?_) fun c=> ?_) fun c=> ?_) fun c=> ?_) fun c=> ?_) fun _=> ?_) fun c=> ?_) fun c=> ?_) fun c=> ?_) fun c=> ?_
    ·show Z _
     rw [NV,aO (n:=n) (by omega) hn,aO (n:=n) (by omega) hn]
     exact hZ (k+1,k2+1,_,_) ⟨⟨by show k0<=k+1;omega,by show k+1<k0+(k2+1);omega⟩,by show 1<=k2+1;omega,by show k2+1<=n - k0;omega⟩ (by show n - k0 - (k2+1)<n - k0 - k2;omega)
    ·have:=of_decide_eq_false c;omega
    ·simp only [Bool.and_eq_false_iff,decide_eq_false_iff_not] at c;omega
    ·have:=of_decide_eq_false c;omega
    ·simp only [Bool.and_eq_false_iff,decide_eq_false_iff_not] at c;omega
    ·show Z _
     rw [aO (n:=n) (by omega) hn]
     exact hZ (k,k2+1,X,Y) ⟨⟨h1,by show k<k0+(k2+1);omega⟩,by show 1<=k2+1;omega,by show k2+1<=n - k0;omega⟩ (by show n - k0 - (k2+1)<n - k0 - k2;omega)
    ·have:=of_decide_eq_false c;omega
    ·simp only [Bool.and_eq_false_iff,decide_eq_false_iff_not] at c;omega
    ·have:=of_decide_eq_false c;omega
    ·simp only [Bool.and_eq_false_iff,decide_eq_false_iff_not] at c;omega
   ·have c1':=of_decide_eq_false c1
    show jI cpE (aB cpR 1) cpF cpP 0 cpI K (.exit 2) (cpT n k0 X Y k k2)
    rw [aC2]
    simp only [Int.toNat_natCast,Nat.sub_zero]
    refine Br.of (fun _=>Br.of (fun _=>Br.of (fun _=>Br.of (fun _=>hK k (by omega)) fun c=> ?_) fun c=> ?_) fun c=> ?_) fun c=> ?_
    ·have:=of_decide_eq_false c;omega
    ·simp only [Bool.true_and,Bool.and_eq_false_iff,decide_eq_false_iff_not] at c;omega
    ·have:=of_decide_eq_false c;omega
    ·simp only [Bool.and_eq_false_iff,decide_eq_false_iff_not] at c;omega)
def wB(n:Nat)(X Y:Nat->Int)(K:KC):Prop:=
 Br (LP X Y n) (∀m,m<n->K (.own 0 0 2 m) [none] [0]) (K (.own 0 0 2 n) [some (.row 24 2 n (bE X Y))] [0])
theorem aEl(n:Nat)(X Y:Nat->Int)(hn:n<9223372036854775808)(h2:2<=n)(K:KC)(hK:wB n X Y K):eA cpR (fun _=>0) p8 2 aCP [.own 0 0 2 n] [some (.row 24 2 n (bE X Y))] K:=by
 rw [aAi]
 unfold wB at hK
 refine Br.of (fun c=>absurd (of_decide_eq_true c) (by omega)) fun _=>⟨n+1, ?_⟩
 refine gV (fun k:Nat=>cpS n X Y k) (fun k=>n - k) (fun k=>(1<=k/\k<=n)/\ ∀j,j+1<k->P9 X Y j=false) (fun k ⟨⟨h1,h3⟩,h4⟩ Z hZ=> ?_) (n+1) 1 ⟨⟨by omega,by omega⟩,fun j hj=>by omega⟩ (by omega)
 show aF cpE (aB cpR 1) cpF cpP 0 _ (cpS n X Y k)
 rw [YQ,E1 h1 (by omega)]
 simp only [Int.toNat_natCast,Nat.zero_add]
 refine Br.of (fun c1=> ?_) fun c1=> ?_
 ·have c1':=of_decide_eq_true c1
  have hs:(X k==X (k - 1)&&Y k==Y (k - 1))=P9 X Y (k - 1):=by unfold P9;rw [Nat.sub_add_cancel h1]
  rw [hs]
  refine Br.of (fun _=>Br.of (fun _=>Br.of (fun _=>Br.of (fun _=>Br.of (fun c2=>Br.of (fun _=>Br.of (fun _=> ?_) fun c=> ?_) fun c=> ?_) fun c2=> ?_) fun c=> ?_) fun c=> ?_) fun c=> ?_) fun c=> ?_
  ·refine ⟨n+1, ?_⟩
   rw [show LP X Y n=true from sA.2 ⟨k - 1,by omega,c2⟩] at hK
   exact aAT n k hn h1 _ (fun m hm=>by
    show aE cpE (aB cpR 1) cpF cpP 1 K .ret _
    rw [aEY];exact hK m hm) (n+1) (k,1,X,Y) ⟨⟨Nat.le_refl _,by show k<k+1;omega⟩,Nat.le_refl _,by show 1<=n - k;omega⟩ (by omega)
  ·have:=of_decide_eq_false c;omega
  ·simp only [Bool.and_eq_false_iff,decide_eq_false_iff_not] at c;omega
  ·show Z _
   rw [aO (n:=n) (by omega) hn]
   refine hZ (k+1) ⟨⟨by omega,by omega⟩,fun j hj=> ?_⟩ (by omega)
   rcases Nat.lt_or_eq_of_le (Nat.le_of_lt_succ hj) with hj|hj
   ·exact h4 j hj
   ·rw [show j=k - 1 by omega];exact c2
  ·have:=of_decide_eq_false c;omega
  ·simp only [Bool.and_eq_false_iff,decide_eq_false_iff_not] at c;omega
  ·have:=of_decide_eq_false c;omega
  ·simp only [Bool.and_eq_false_iff,decide_eq_false_iff_not] at c;omega
 ·have c1':=of_decide_eq_false c1
  show aE cpE (aB cpR 1) cpF cpP 1 K (.exit 0) (cpS n X Y k)
  rw [WL]
  rw [show LP X Y n=false from kT.2 fun j hj=>h4 j (by omega)] at hK
  exact hK
def DD :List SV->List (Option SB)->KC->Prop
 | [.own 0 0 2 n],[some (.row 24 2 n' g)],K=>(pts g/\n'=n/\2<=n)/\wB n (fun i=>px (g i)) (fun i=>py (g i)) K
 |_,_,_=>False
theorem JF(xs:List SV)(σ:List (Option SB)):Sat Tryz.prog aCP xs σ (DD xs σ):=by
 refine oR (fun K hK=> ?_) fun hx _ K hK=> ?_<;>unfold DD at hK<;>split at hK
 ·obtain ⟨⟨_,_,h⟩,hK⟩:=hK
  unfold wB at hK
  revert hK
  generalize LP _ _ _=b
  intro hK
  cases b
  ·exact ⟨_,_,_,hK⟩
  ·exact ⟨_,_,_,hK 0 (by omega)⟩
 ·exact hK.elim
 ·rename_i n n' g _
  obtain ⟨⟨hp,rfl,h⟩,hK⟩:=hK
  have:=aEl n' (fun i=>px (g i)) (fun i=>py (g i)) hx.1 h K hK
  rw [<- xG hp] at this
  exact bX (env:=tab.env p8 (fun _=>0) (fun _=>false)) ⟨tab.htt,p8.ok⟩ tab.mixed (fun n=>bC n cpR) tab.hft 2 _ _ _ K this
 ·exact hK.elim
end Go.Proofs.YtghnfjfkjhbgdaaGreatDoor
namespace Go.Proofs.YtghnfjfkjhbgdaaGreatDoor
open Go.Se
set_option maxRecDepth 100000
theorem UE(n:Nat)(X Y:Nat->Int)(K:KC):run p8 3 142 [.ro n 2 (bE X Y)] [] K=
 (Br (decide ((↑n:Int)<3)) (K (SV.int .i64 42) [] []) (Br (decide ((↑n:Int)>64)) (K (SV.int .i64 42) [] []) ((pts (bE X Y))/\(Br (decide (jM (fun (i:Nat)=>sR (px (bE X Y i)) (py (bE X Y i))) n 0>=0)) (K (SV.int .i64 40) [] []) (K (SV.int .i64 0) [] []))))):=by kernel_rfl
theorem TT(n:Nat)(X Y:Nat->Int):aD Tryz.prog 142 [.ro n 2 (bE X Y)] [] (.int .i64 (nS n X Y)) [] []:=
 aV p8 3 fun _ _ K hK=>by
  rw [UE]
  unfold nS at hK
  refine Br.of (fun c=> ?_) fun c=>Br.of (fun c2=> ?_) fun c2=>⟨fun _=>rfl,Br.of (fun c3=> ?_) fun c3=> ?_⟩
  ·rw [c] at hK;exact hK
  ·rw [c,c2] at hK;exact hK
  ·have c3':iE (fun i=>sR (X i) (Y i)) n=true:=c3
   rw [c,c2,c3'] at hK;exact hK
  ·have c3':iE (fun i=>sR (X i) (Y i)) n=false:=c3
   rw [c,c2,c3'] at hK;exact hK
def HH :List SV->List (Option SB)->KC->Prop
 | [.ro n 2 g],[],K=>pts g/\K (.int .i64 (nS n (fun i=>px (g i)) (fun i=>py (g i)))) [] []
 |_,_,_=>False
theorem NB(xs:List SV)(σ:List (Option SB)):Sat Tryz.prog 142 xs σ (HH xs σ):=by
 intro K hK
 unfold HH at hK
 split at hK
 ·obtain ⟨hp,hK⟩:=hK
  refine ⟨_,_,_,hK, ?_⟩
  rw [xG hp];exact TT _ _ _
 ·exact hK.elim
noncomputable def p9 :bT Tryz.prog:=(((p8).add aCP DD JF).add 142 HH NB).add 141 aAP aAc
theorem UV(t:Trk)(K:KC):run p9 4 98 [.agg (aM t)] [] K=
 (Br (decide (60<=t.rate)) (Br (!decide (t.rate<=1024)) (K (SV.iface 91 (SV.ptr 0 0)) [some (SB.cells 98 [SV.int .i64 40,SV.int .i64 0])] []) ((kE (aP t.h) (aP t.g) (eY t) (bS t.lx t.ly) (cH t) (eV t))/\(Br (oP t==0) ((pts (bS t.lx t.ly))/\(Br ((nS t.nl (fun (i:Nat)=>px (bS t.lx t.ly i)) fun (i:Nat)=>py (bS t.lx t.ly i)) !=0) (K (SV.iface 91 (SV.ptr 0 0)) [some (SB.cells 98 [SV.int .i64 (nS t.nl (fun (i:Nat)=>px (bS t.lx t.ly i)) fun (i:Nat)=>py (bS t.lx t.ly i)),SV.int .i64 0])] []) ((pts (bS t.lx t.ly))/\(Br (!decide (jM (fun (i:Nat)=>t6 (px (bS t.lx t.ly i)) (py (bS t.lx t.ly i))) t.nl 0>=0)) (K SV.nilI [] []) (K (SV.iface 91 (SV.ptr 0 0)) [some (SB.cells 98 [SV.int .i64 40,SV.int .i64 0])] []))))) (Br (oP t !=0) (K (SV.iface 91 (SV.ptr 0 0)) [some (SB.cells 98 [SV.int .i64 (oP t),SV.int .i64 0])] []) ((pts (bS t.lx t.ly))/\(Br ((nS t.nl (fun (i:Nat)=>px (bS t.lx t.ly i)) fun (i:Nat)=>py (bS t.lx t.ly i)) !=0) (K (SV.iface 91 (SV.ptr 0 0)) [some (SB.cells 98 [SV.int .i64 (nS t.nl (fun (i:Nat)=>px (bS t.lx t.ly i)) fun (i:Nat)=>py (bS t.lx t.ly i)),SV.int .i64 0])] []) ((pts (bS t.lx t.ly))/\(Br (!decide (jM (fun (i:Nat)=>t6 (px (bS t.lx t.ly i)) (py (bS t.lx t.ly i))) t.nl 0>=0)) (K SV.nilI [] []) (K (SV.iface 91 (SV.ptr 0 0)) [some (SB.cells 98 [SV.int .i64 40,SV.int .i64 0])] []))))))))) (K (SV.iface 91 (SV.ptr 0 0)) [some (SB.cells 98 [SV.int .i64 40,SV.int .i64 0])] [])):=by kernel_rfl
def pU(c:Int×Int)(K:KC):Prop:=Br (c.1==0) (K .nilI [] []) (K (.iface 91 (.ptr 0 0)) [some (.cells 98 [.int .i64 c.1,.int .i64 c.2])] [])
theorem aC4{x:Int}(h:(x !=0)=true):(x==0)=false:=by rw [bne_iff_ne] at h;exact beq_false_of_ne h
theorem aFL{x:Int}(h:(x !=0)=false):x=0:=by
 by_cases hx:x=0
 ·exact hx
 ·rw [bne_iff_ne.2 hx] at h;cases h
theorem NK(t:Trk)(K:KC)(hK:pU (hC t,0) K):run p9 4 98 [.agg (aM t)] [] K:=by
 rw [UV]
 unfold pU hC QB at hK
 refine Br.of (fun c=>Br.of (fun c1=> ?_) fun c1=>⟨fT t, ?_⟩) fun c=> ?_
 ·rw [c,show decide (t.rate<=1024)=false by rw [Bool.not_eq_true'] at c1;exact c1] at hK;exact hK
 ·rw [c,show decide (t.rate<=1024)=true by rw [Bool.not_eq_false'] at c1;exact c1] at hK
  simp only [Bool.and_self,Bool.not_true,cond_false] at hK
  refine Br.of (fun c2=> ?_) fun c2=>Br.of (fun c3=> ?_) fun c3=> ?_
  ·have c2':=eq_of_beq c2
   rw [c2'] at hK
   simp only [bne_self_eq_false,cond_false] at hK
   refine ⟨fun _=>rfl,Br.of (fun c4=> ?_) fun c4=>⟨fun _=>rfl,Br.of (fun c5=> ?_) fun c5=> ?_⟩⟩
   ·have c4':(nS t.nl t.lx t.ly !=0)=true:=c4
    rw [c4'] at hK
    simp only [cond_true] at hK
    rw [aC4 c4'] at hK
    exact hK
   ·have c4':(nS t.nl t.lx t.ly !=0)=false:=c4
    have c5':GR t=false:=by rw [Bool.not_eq_true'] at c5;exact c5
    rw [c4',c5'] at hK
    exact hK
   ·have c4':(nS t.nl t.lx t.ly !=0)=false:=c4
    have c5':GR t=true:=by rw [Bool.not_eq_false'] at c5;exact c5
    rw [c4',c5'] at hK
    exact hK
  ·rw [c3] at hK
   simp only [cond_true] at hK
   rw [c2] at hK
   exact hK
  ·rw [aFL c3] at c2;cases c2
 ·rw [c] at hK;exact hK
def zK :List (Nat×eR):=[(0,⟨[1,2,13,14,15],[0,1],[1,2,3,4,5],2,[(2,1)]⟩)]
def YJ(t:Trk)(i:Int):St:=⟨[(1,.ptr 0 0),(2,.nilI),(13,.ro t.nr 1 (cH t)),(14,.int .i64 t.nr),(15,.int .i64 i)],[(0,some (.cells 34 (aM t))),(1,none)],2,[1,2,3,4,5],49⟩
def aEQ(t:Trk)(c i:Int):St:=⟨[(1,.ptr 0 0),(2,.iface 91 (.ptr 1 0)),(13,.ro t.nr 1 (cH t)),(14,.int .i64 t.nr),(15,.int .i64 i)],[(0,some (.cells 34 (aM t))),(1,some (.cells 98 [.int .i64 c,.int .i64 i]))],2,[1,2,3,4,5],49⟩
noncomputable abbrev I4 :Env:=fW zK (fun _=>0) p9 3
noncomputable abbrev LB :Func:=Tryz.f99
abbrev uA :List Nat:=[1,1,0,1,0]
theorem TU(t:Trk)(K:KC):eA zK (fun _=>0) p9 4 99 [.agg (aM t)] [] K=
 (Br (decide ((↑t.nr:Int)>16)) (K (SV.iface 91 (SV.ptr 0 0)) [some (SB.cells 98 [SV.int .i64 42,SV.int .i64 0])] []) (∃q_,bO I4 (aB zK 0) LB uA 0 0 K q_ {tmps:=[(1,SV.ptr 0 0),(2,SV.nilI),(13,SV.ro t.nr 1 (cH t)),(14,SV.int .i64 (↑t.nr:Int)),(15,SV.int .i64 0)],store:=[(0,some (SB.cells 34 (aM t))),(1,none)],nxt:=2,dirty:=[1,2,3,4,5],nt:=49})):=by kernel_rfl
theorem FD(t:Trk)(i:Nat)(K:Ex->St->Prop):aF I4 (aB zK 0) LB uA 0 K (YJ t i)=
 (Br (decide ((↑i:Int)<(↑t.nr:Int))) (Br (decide (0<=(↑i:Int))&&decide ((↑i:Int)<(↑t.nr:Int))) (Br (decide (2<=(↑(t.rn (↑i:Int).toNat):Int))) (Br (!decide ((↑(t.rn (↑i:Int).toNat):Int)<=64)) (K Ex.ret {tmps:=[(1,SV.ptr 0 0),(2,SV.iface 91 (SV.ptr 1 0)),(13,SV.ro t.nr 1 (cH t)),(14,SV.int .i64 (↑t.nr:Int)),(15,SV.int .i64 (↑i:Int))],store:=[(0,some (SB.cells 34 (aM t))),(1,some (SB.cells 98 [SV.int .i64 42,SV.int .i64 (↑i:Int)]))],nxt:=2,dirty:=[1,2,3,4,5],nt:=49}) ((pts (bS (t.rx (↑i:Int).toNat) (t.ry (↑i:Int).toNat)))/\(Br (decide (jM (fun (i_1:Nat)=>t6 (px (bS (t.rx (↑i:Int).toNat) (t.ry (↑i:Int).toNat) i_1)) (py (bS (t.rx (↑i:Int).toNat) (t.ry (↑i:Int).toNat) i_1))) (t.rn (↑i:Int).toNat) 0>=0)) (K Ex.ret {tmps:=[(1,SV.ptr 0 0),(2,SV.iface 91 (SV.ptr 1 0)),(13,SV.ro t.nr 1 (cH t)),(14,SV.int .i64 (↑t.nr:Int)),(15,SV.int .i64 (↑i:Int))],store:=[(0,some (SB.cells 34 (aM t))),(1,some (SB.cells 98 [SV.int .i64 40,SV.int .i64 (↑i:Int)]))],nxt:=2,dirty:=[1,2,3,4,5],nt:=49}) ((pts (bS (t.rx (↑i:Int).toNat) (t.ry (↑i:Int).toNat)))/\((0<t.rn (↑i:Int).toNat/\t.rn (↑i:Int).toNat<=1000000)/\((pts (bS (t.rx (↑i:Int).toNat) (t.ry (↑i:Int).toNat))/\t.rn (↑i:Int).toNat=t.rn (↑i:Int).toNat/\2<=t.rn (↑i:Int).toNat)/\(Br (LP (fun (i_1:Nat)=>px (bS (t.rx (↑i:Int).toNat) (t.ry (↑i:Int).toNat) i_1)) (fun (i_1:Nat)=>py (bS (t.rx (↑i:Int).toNat) (t.ry (↑i:Int).toNat) i_1)) (t.rn (↑i:Int).toNat)) (∀(m:Nat),∀(_:m<t.rn (↑i:Int).toNat),Br (decide ((↑m:Int)<(↑(t.rn (↑i:Int).toNat):Int))) (K Ex.ret {tmps:=[(1,SV.ptr 0 0),(2,SV.iface 91 (SV.ptr 1 0)),(13,SV.ro t.nr 1 (cH t)),(14,SV.int .i64 (↑t.nr:Int)),(15,SV.int .i64 (↑i:Int))],store:=[(0,some (SB.cells 34 (aM t))),(1,some (SB.cells 98 [SV.int .i64 43,SV.int .i64 (↑i:Int)]))],nxt:=2,dirty:=[1,2,3,4,5],nt:=49}) (K Ex.normal {tmps:=[(1,SV.ptr 0 0),(2,SV.nilI),(13,SV.ro t.nr 1 (cH t)),(14,SV.int .i64 (↑t.nr:Int)),(15,SV.int .i64 (IntKind.i64.wrap ((↑i:Int)+1)))],store:=[(0,some (SB.cells 34 (aM t))),(1,none)],nxt:=2,dirty:=[1,2,3,4,5],nt:=49})) (Br (decide ((↑(t.rn (↑i:Int).toNat):Int)<(↑(t.rn (↑i:Int).toNat):Int))) (K Ex.ret {tmps:=[(1,SV.ptr 0 0),(2,SV.iface 91 (SV.ptr 1 0)),(13,SV.ro t.nr 1 (cH t)),(14,SV.int .i64 (↑t.nr:Int)),(15,SV.int .i64 (↑i:Int))],store:=[(0,some (SB.cells 34 (aM t))),(1,some (SB.cells 98 [SV.int .i64 43,SV.int .i64 (↑i:Int)]))],nxt:=2,dirty:=[1,2,3,4,5],nt:=49}) (K Ex.normal {tmps:=[(1,SV.ptr 0 0),(2,SV.nilI),(13,SV.ro t.nr 1 (cH t)),(14,SV.int .i64 (↑t.nr:Int)),(15,SV.int .i64 (IntKind.i64.wrap ((↑i:Int)+1)))],store:=[(0,some (SB.cells 34 (aM t))),(1,none)],nxt:=2,dirty:=[1,2,3,4,5],nt:=49}))))))))) (K Ex.ret {tmps:=[(1,SV.ptr 0 0),(2,SV.iface 91 (SV.ptr 1 0)),(13,SV.ro t.nr 1 (cH t)),(14,SV.int .i64 (↑t.nr:Int)),(15,SV.int .i64 (↑i:Int))],store:=[(0,some (SB.cells 34 (aM t))),(1,some (SB.cells 98 [SV.int .i64 42,SV.int .i64 (↑i:Int)]))],nxt:=2,dirty:=[1,2,3,4,5],nt:=49})) (False)) (K (Ex.exit 0) {tmps:=[(1,SV.ptr 0 0),(2,SV.nilI),(13,SV.ro t.nr 1 (cH t)),(14,SV.int .i64 (↑t.nr:Int)),(15,SV.int .i64 (↑i:Int))],store:=[(0,some (SB.cells 34 (aM t))),(1,none)],nxt:=2,dirty:=[1,2,3,4,5],nt:=49})):=by kernel_rfl
theorem aB8(t:Trk)(c i:Int)(K:KC):aE I4 (aB zK 0) LB uA 0 K .ret (aEQ t c i)=
 (K (SV.iface 91 (SV.ptr 0 0)) [some (SB.cells 98 [SV.int .i64 c,SV.int .i64 i])] []):=by kernel_rfl
theorem S6(t:Trk)(i:Int)(K:KC):aE I4 (aB zK 0) LB uA 0 K (.exit 0) (YJ t i)=
 (K SV.nilI [] []):=by kernel_rfl
theorem Q0{c:Nat->Int}{n i:Nat}{v:Int}{K:KC}(hK:pU (uB c (n - i) i) K)(hi:i<n)(h:c i=v)(hv:(v !=0)=true):K (.iface 91 (.ptr 0 0)) [some (.cells 98 [.int .i64 v,.int .i64 i])] []:=by
 rw [aBn hi h hv] at hK
 unfold pU at hK
 rw [aC4 hv] at hK
 exact hK
theorem V7(t:Trk)(hn:t.nr<9223372036854775808)(K:KC)(hK:pU (oH t) K):eA zK (fun _=>0) p9 4 99 [.agg (aM t)] [] K:=by
 rw [TU]
 unfold oH at hK
 refine Br.of (fun c=> ?_) fun c=> ?_
 ·rw [c] at hK;exact hK
 rw [c] at hK
 simp only [cond_false] at hK
 refine ⟨t.nr+1,iQ (fun i:Nat=>YJ t i) t.nr (fun i=>pU (uB (DH t) (t.nr - i) i) K) (fun i hi hI X hX=> ?_) (fun hI X=> ?_) hK⟩
 ·have hret: ∀v,DH t i=v->(v !=0)=true->eT X (aE I4 (aB zK 0) LB uA 0 K) .ret (aEQ t v i):=fun v h1 h2=>by
   show aE I4 (aB zK 0) LB uA 0 K .ret (aEQ t v i)
   rw [aB8]
   exact Q0 hI hi h1 h2
  have hnext:DH t i=0->eT X (aE I4 (aB zK 0) LB uA 0 K) .normal (YJ t (i+1:Nat)):=fun h=>hX (by rw [JI hi h] at hI;exact hI)
  rw [FD,aO hi hn]
  simp only [Int.toNat_natCast]
  unfold DH at hret hnext
  refine Br.of (fun _=>Br.of (fun _=>Br.of (fun c1=>Br.of (fun c2=>hret 42 ?_ rfl) fun c2=>⟨fun _=>rfl,Br.of (fun c3=>hret 40 ?_ rfl) fun c3=>⟨fun _=>rfl, ?_, ?_, ?_⟩⟩) fun c1=>hret 42 ?_ rfl) fun c=> ?_) fun c=> ?_
  ·rw [c1,show decide ((t.rn i:Int)<=64)=false by rw [Bool.not_eq_true'] at c2;exact c2];rfl
  ·have c3':iE (fun k=>t6 (t.rx i k) (t.ry i k)) (t.rn i)=true:=c3
   rw [c1,show decide ((t.rn i:Int)<=64)=true by rw [Bool.not_eq_false'] at c2;exact c2,c3'];rfl
  ·have:=of_decide_eq_true c1
   rw [Bool.not_eq_false'] at c2
   have:=of_decide_eq_true c2
   omega
  ·have:=of_decide_eq_true c1
   exact ⟨fun _=>rfl,by trivial,by omega⟩
  ·have c3':iE (fun k=>t6 (t.rx i k) (t.ry i k)) (t.rn i)=false:=c3
   rw [c1,show decide ((t.rn i:Int)<=64)=true by rw [Bool.not_eq_false'] at c2;exact c2,c3'] at hret hnext
   refine Br.of (fun c4 m hm=>Br.of (fun _=> ?_) fun c=> ?_) fun c4=>Br.of (fun c=> ?_) fun _=> ?_
   ·have c4':LP (t.rx i) (t.ry i) (t.rn i)=true:=c4
    exact hret 43 (by rw [c4'];rfl) rfl
   ·have:=of_decide_eq_false c;omega
   ·have:=of_decide_eq_true c;omega
   ·have c4':LP (t.rx i) (t.ry i) (t.rn i)=false:=c4
    exact hnext (by rw [c4'];rfl)
  ·rw [c1];rfl
  ·simp only [Bool.and_eq_false_iff,decide_eq_false_iff_not] at c;omega
  ·have:=of_decide_eq_false c;omega
 ·rw [FD]
  refine Br.of (fun c=>absurd (of_decide_eq_true c) (by omega)) fun _=> ?_
  show aE I4 (aB zK 0) LB uA 0 K (.exit 0) (YJ t t.nr)
  rw [S6]
  rw [Nat.sub_self] at hI
  exact hI
def zN :List (Nat×eR):=[(0,⟨[1,2,14,15,16],[0,1],[1,2,3,4,5],2,[(2,1)]⟩)]
def aAB(t:Trk)(i:Int):St:=⟨[(1,.ptr 0 0),(2,.nilI),(14,.ro t.nt 5 (eV t)),(15,.int .i64 t.nt),(16,.int .i64 i)],[(0,some (.cells 34 (aM t))),(1,none)],2,[1,2,3,4,5],45⟩
def aEH(t:Trk)(c i:Int):St:=⟨[(1,.ptr 0 0),(2,.iface 91 (.ptr 1 0)),(14,.ro t.nt 5 (eV t)),(15,.int .i64 t.nt),(16,.int .i64 i)],[(0,some (.cells 34 (aM t))),(1,some (.cells 98 [.int .i64 c,.int .i64 i]))],2,[1,2,3,4,5],45⟩
noncomputable abbrev IU :Env:=fW zN (fun _=>0) p9 3
noncomputable abbrev LS :Func:=Tryz.f100
theorem VZ(t:Trk)(K:KC):eA zN (fun _=>0) p9 4 100 [.agg (aM t)] [] K=
 (Br (decide (1<=(↑t.nt:Int))) (Br (!decide ((↑t.nt:Int)<=16)) (K (SV.iface 91 (SV.ptr 0 0)) [some (SB.cells 98 [SV.int .i64 42,SV.int .i64 0])] []) (∃q_,bO IU (aB zN 0) LS uA 0 0 K q_ {tmps:=[(1,SV.ptr 0 0),(2,SV.nilI),(14,SV.ro t.nt 5 (eV t)),(15,SV.int .i64 (↑t.nt:Int)),(16,SV.int .i64 0)],store:=[(0,some (SB.cells 34 (aM t))),(1,none)],nxt:=2,dirty:=[1,2,3,4,5],nt:=45})) (K (SV.iface 91 (SV.ptr 0 0)) [some (SB.cells 98 [SV.int .i64 42,SV.int .i64 0])] [])):=by kernel_rfl
theorem GA(t:Trk)(i:Nat)(K:Ex->St->Prop):aF IU (aB zN 0) LS uA 0 K (aAB t i)=
 (Br (decide ((↑i:Int)<(↑t.nt:Int))) (Br (decide (0<=(↑i:Int))&&decide ((↑i:Int)<(↑t.nt:Int))) (Br (t6 (t.ax (↑i:Int).toNat) (t.ay (↑i:Int).toNat)) (K Ex.ret {tmps:=[(1,SV.ptr 0 0),(2,SV.iface 91 (SV.ptr 1 0)),(14,SV.ro t.nt 5 (eV t)),(15,SV.int .i64 (↑t.nt:Int)),(16,SV.int .i64 (↑i:Int))],store:=[(0,some (SB.cells 34 (aM t))),(1,some (SB.cells 98 [SV.int .i64 40,SV.int .i64 (↑i:Int)]))],nxt:=2,dirty:=[1,2,3,4,5],nt:=45}) (Br (t6 (t.bx (↑i:Int).toNat) (t.sb (↑i:Int).toNat)) (K Ex.ret {tmps:=[(1,SV.ptr 0 0),(2,SV.iface 91 (SV.ptr 1 0)),(14,SV.ro t.nt 5 (eV t)),(15,SV.int .i64 (↑t.nt:Int)),(16,SV.int .i64 (↑i:Int))],store:=[(0,some (SB.cells 34 (aM t))),(1,some (SB.cells 98 [SV.int .i64 40,SV.int .i64 (↑i:Int)]))],nxt:=2,dirty:=[1,2,3,4,5],nt:=45}) (Br (t.ax (↑i:Int).toNat==t.bx (↑i:Int).toNat&&t.ay (↑i:Int).toNat==t.sb (↑i:Int).toNat) (K Ex.ret {tmps:=[(1,SV.ptr 0 0),(2,SV.iface 91 (SV.ptr 1 0)),(14,SV.ro t.nt 5 (eV t)),(15,SV.int .i64 (↑t.nt:Int)),(16,SV.int .i64 (↑i:Int))],store:=[(0,some (SB.cells 34 (aM t))),(1,some (SB.cells 98 [SV.int .i64 43,SV.int .i64 (↑i:Int)]))],nxt:=2,dirty:=[1,2,3,4,5],nt:=45}) (K Ex.normal {tmps:=[(1,SV.ptr 0 0),(2,SV.nilI),(14,SV.ro t.nt 5 (eV t)),(15,SV.int .i64 (↑t.nt:Int)),(16,SV.int .i64 (IntKind.i64.wrap ((↑i:Int)+1)))],store:=[(0,some (SB.cells 34 (aM t))),(1,none)],nxt:=2,dirty:=[1,2,3,4,5],nt:=45})))) (False)) (K (Ex.exit 0) {tmps:=[(1,SV.ptr 0 0),(2,SV.nilI),(14,SV.ro t.nt 5 (eV t)),(15,SV.int .i64 (↑t.nt:Int)),(16,SV.int .i64 (↑i:Int))],store:=[(0,some (SB.cells 34 (aM t))),(1,none)],nxt:=2,dirty:=[1,2,3,4,5],nt:=45})):=by kernel_rfl
theorem aBZ(t:Trk)(c i:Int)(K:KC):aE IU (aB zN 0) LS uA 0 K .ret (aEH t c i)=
 (K (SV.iface 91 (SV.ptr 0 0)) [some (SB.cells 98 [SV.int .i64 c,SV.int .i64 i])] []):=by kernel_rfl
theorem SR(t:Trk)(i:Int)(K:KC):aE IU (aB zN 0) LS uA 0 K (.exit 0) (aAB t i)=
 (K SV.nilI [] []):=by kernel_rfl
theorem VW(t:Trk)(hn:t.nt<9223372036854775808)(K:KC)(hK:pU (oI t) K):eA zN (fun _=>0) p9 4 100 [.agg (aM t)] [] K:=by
 rw [VZ]
 unfold oI at hK
 refine Br.of (fun c=>Br.of (fun c1=> ?_) fun c1=> ?_) fun c=> ?_
 ·rw [c,show decide ((t.nt:Int)<=16)=false by rw [Bool.not_eq_true'] at c1;exact c1] at hK;exact hK
 ·rw [c,show decide ((t.nt:Int)<=16)=true by rw [Bool.not_eq_false'] at c1;exact c1] at hK
  simp only [Bool.and_self,Bool.not_true,cond_false] at hK
  refine ⟨t.nt+1,iQ (fun i:Nat=>aAB t i) t.nt (fun i=>pU (uB (ME t) (t.nt - i) i) K) (fun i hi hI X hX=> ?_) (fun hI X=> ?_) hK⟩
  ·have hret: ∀v,ME t i=v->(v !=0)=true->eT X (aE IU (aB zN 0) LS uA 0 K) .ret (aEH t v i):=fun v h1 h2=>by
    show aE IU (aB zN 0) LS uA 0 K .ret (aEH t v i)
    rw [aBZ]
    exact Q0 hI hi h1 h2
   have hnext:ME t i=0->eT X (aE IU (aB zN 0) LS uA 0 K) .normal (aAB t (i+1:Nat)):=fun h=>hX (by rw [JI hi h] at hI;exact hI)
   rw [GA,aO hi hn]
   simp only [Int.toNat_natCast]
   unfold ME at hret hnext
   refine Br.of (fun _=>Br.of (fun _=>Br.of (fun c1=>hret 40 ?_ rfl) fun c1=>Br.of (fun c2=>hret 40 ?_ rfl) fun c2=>Br.of (fun c3=>hret 43 ?_ rfl) fun c3=>hnext ?_) fun c=> ?_) fun c=> ?_
   ·rw [c1];rfl
   ·rw [c1,c2];rfl
   ·rw [c1,c2,c3];rfl
   ·rw [c1,c2,c3];rfl
   ·simp only [Bool.and_eq_false_iff,decide_eq_false_iff_not] at c;omega
   ·have:=of_decide_eq_false c;omega
  ·rw [GA]
   refine Br.of (fun c=>absurd (of_decide_eq_true c) (by omega)) fun _=> ?_
   show aE IU (aB zN 0) LS uA 0 K (.exit 0) (aAB t t.nt)
   rw [SR]
   rw [Nat.sub_self] at hI
   exact hI
 ·rw [c] at hK;exact hK
end Go.Proofs.YtghnfjfkjhbgdaaGreatDoor
namespace Go.Proofs.YtghnfjfkjhbgdaaGreatDoor
open Go.Se
set_option maxRecDepth 100000
def tbR :List (Nat×eR):=[(0,⟨[3,8,9,10],[1],[1,2,3,4,5],2,[(3,1)]⟩),(2,⟨[3,4,5,21,22,8,9,10],[1],[1,2,3,4,5],2,[(3,1)]⟩)]
def tbS(t:Trk)(o:SV)(b:Option SB)(i:Int):St:=⟨[(3,o),(8,.ro t.nr 1 (cH t)),(9,.int .i64 t.nr),(10,.int .i64 i)],[(1,b)],2,[1,2,3,4,5],42⟩
def tbT(t:Trk)(o:SV)(b:Option SB)(i:Int)(r:Nat)(X Y:Nat->Int)(n k:Int):St:=⟨[(3,o),(4,.int .i64 i),(5,.ro r 2 (bE X Y)),(21,.int .i64 n),(22,.int .i64 k),(8,.ro t.nr 1 (cH t)),(9,.int .i64 t.nr),(10,.int .i64 i)],[(1,b)],2,[1,2,3,4,5],42⟩
noncomputable abbrev tbE :Env:=fW tbR (fun _=>0) p9 1
noncomputable abbrev tbF :Func:=Tryz.f148
abbrev tbP :List Nat:=[1,1,0,1,0]
abbrev tbI :List Nat:=[1,1,0,0,1,1,0]
abbrev H3 :TypeId:=123
theorem X9(t:Trk)(K:KC):eA tbR (fun _=>0) p9 2 148 [.agg (aM t)] [] K=
 (∃q_,bO tbE (aB tbR 0) tbF tbP 0 0 K q_ {tmps:=[(3,SV.nils),(8,SV.ro t.nr 1 (cH t)),(9,SV.int .i64 (↑t.nr:Int)),(10,SV.int .i64 0)],store:=[(1,none)],nxt:=2,dirty:=[1,2,3,4,5],nt:=42}):=by kernel_rfl
theorem U3(t:Trk)(i:Nat)(K:Ex->St->Prop):aF tbE (aB tbR 0) tbF tbP 0 K (tbS t .nils none i)=
 (Br (decide ((↑i:Int)<(↑t.nr:Int))) (Br (decide (0<=(↑i:Int))&&decide ((↑i:Int)<(↑t.nr:Int))) (Br (true&&(decide (0<=if 0>IntKind.i64.wrap ((↑(t.rn (↑i:Int).toNat):Int) - 1) then 0 else IntKind.i64.wrap ((↑(t.rn (↑i:Int).toNat):Int) - 1))&&decide ((if 0>IntKind.i64.wrap ((↑(t.rn (↑i:Int).toNat):Int) - 1) then 0 else IntKind.i64.wrap ((↑(t.rn (↑i:Int).toNat):Int) - 1))<=(↑(t.rn (↑i:Int).toNat):Int)))) (∃q_,iter (aF tbE (aB tbR 0) tbF (tbP++[0]++tbI) 2) (jI tbE (aB tbR 0) tbF tbP 0 tbI K) q_ {tmps:=[(3,SV.nils),(4,SV.int .i64 (↑i:Int)),(5,SV.ro (t.rn (↑i:Int).toNat) 2 (bS (t.rx (↑i:Int).toNat) (t.ry (↑i:Int).toNat))),(21,SV.int .i64 (↑((if 0>IntKind.i64.wrap ((↑(t.rn (↑i:Int).toNat):Int) - 1) then 0 else IntKind.i64.wrap ((↑(t.rn (↑i:Int).toNat):Int) - 1)).toNat - 0):Int)),(22,SV.int .i64 0),(8,SV.ro t.nr 1 (cH t)),(9,SV.int .i64 (↑t.nr:Int)),(10,SV.int .i64 (↑i:Int))],store:=[(1,none)],nxt:=2,dirty:=[1,2,3,4,5],nt:=42}) (False)) (False)) (K (Ex.exit 0) {tmps:=[(3,SV.nils),(8,SV.ro t.nr 1 (cH t)),(9,SV.int .i64 (↑t.nr:Int)),(10,SV.int .i64 (↑i:Int))],store:=[(1,none)],nxt:=2,dirty:=[1,2,3,4,5],nt:=42})):=by kernel_rfl
theorem VR(t:Trk)(m:Nat)(g:Nat->List SV)(i:Nat)(K:Ex->St->Prop):aF tbE (aB tbR 0) tbF tbP 0 K (tbS t (.own 1 0 5 m) (some (.row 123 5 m g)) i)=
 (Br (decide ((↑i:Int)<(↑t.nr:Int))) (Br (decide (0<=(↑i:Int))&&decide ((↑i:Int)<(↑t.nr:Int))) (Br (true&&(decide (0<=if 0>IntKind.i64.wrap ((↑(t.rn (↑i:Int).toNat):Int) - 1) then 0 else IntKind.i64.wrap ((↑(t.rn (↑i:Int).toNat):Int) - 1))&&decide ((if 0>IntKind.i64.wrap ((↑(t.rn (↑i:Int).toNat):Int) - 1) then 0 else IntKind.i64.wrap ((↑(t.rn (↑i:Int).toNat):Int) - 1))<=(↑(t.rn (↑i:Int).toNat):Int)))) (∃q_,iter (aF tbE (aB tbR 0) tbF (tbP++[0]++tbI) 2) (jI tbE (aB tbR 0) tbF tbP 0 tbI K) q_ {tmps:=[(3,SV.own 1 0 5 m),(4,SV.int .i64 (↑i:Int)),(5,SV.ro (t.rn (↑i:Int).toNat) 2 (bS (t.rx (↑i:Int).toNat) (t.ry (↑i:Int).toNat))),(21,SV.int .i64 (↑((if 0>IntKind.i64.wrap ((↑(t.rn (↑i:Int).toNat):Int) - 1) then 0 else IntKind.i64.wrap ((↑(t.rn (↑i:Int).toNat):Int) - 1)).toNat - 0):Int)),(22,SV.int .i64 0),(8,SV.ro t.nr 1 (cH t)),(9,SV.int .i64 (↑t.nr:Int)),(10,SV.int .i64 (↑i:Int))],store:=[(1,some (SB.row 123 5 m g))],nxt:=2,dirty:=[1,2,3,4,5],nt:=42}) (False)) (False)) (K (Ex.exit 0) {tmps:=[(3,SV.own 1 0 5 m),(8,SV.ro t.nr 1 (cH t)),(9,SV.int .i64 (↑t.nr:Int)),(10,SV.int .i64 (↑i:Int))],store:=[(1,some (SB.row 123 5 m g))],nxt:=2,dirty:=[1,2,3,4,5],nt:=42})):=by kernel_rfl
theorem aEP(t:Trk)(i r:Nat)(X Y:Nat->Int)(n k:Nat)(K:Ex->St->Prop):aF tbE (aB tbR 0) tbF (tbP++[0]++tbI) 2 K (tbT t .nils none i r X Y n k)=
 (Br (decide ((↑k:Int)<(↑n:Int))) (Br (decide (0<=(↑k:Int))&&decide ((↑k:Int)<(↑r:Int))) (Br (decide (0<=IntKind.i64.wrap ((↑k:Int)+1))&&decide (IntKind.i64.wrap ((↑k:Int)+1)<(↑r:Int))) (K Ex.normal {tmps:=[(3,SV.own 1 0 5 1),(4,SV.int .i64 (↑i:Int)),(5,SV.ro r 2 (bE X Y)),(21,SV.int .i64 (↑n:Int)),(22,SV.int .i64 (IntKind.i64.wrap ((↑k:Int)+1))),(8,SV.ro t.nr 1 (cH t)),(9,SV.int .i64 (↑t.nr:Int)),(10,SV.int .i64 (↑i:Int))],store:=[(1,some (SB.row 123 5 1 fun (i_1:Nat)=>cut [SV.int .i64 (X (↑k:Int).toNat),SV.int .i64 (Y (↑k:Int).toNat),SV.int .i64 (X (IntKind.i64.wrap ((↑k:Int)+1)).toNat),SV.int .i64 (Y (IntKind.i64.wrap ((↑k:Int)+1)).toNat),SV.int .i64 (↑i:Int)] (i_1*5) 5))],nxt:=2,dirty:=[1,2,3,4,5],nt:=42}) (False)) (False)) (K (Ex.exit 2) {tmps:=[(3,SV.nils),(4,SV.int .i64 (↑i:Int)),(5,SV.ro r 2 (bE X Y)),(21,SV.int .i64 (↑n:Int)),(22,SV.int .i64 (↑k:Int)),(8,SV.ro t.nr 1 (cH t)),(9,SV.int .i64 (↑t.nr:Int)),(10,SV.int .i64 (↑i:Int))],store:=[(1,none)],nxt:=2,dirty:=[1,2,3,4,5],nt:=42})):=by kernel_rfl
theorem aEC(t:Trk)(m:Nat)(g:Nat->List SV)(i r:Nat)(X Y:Nat->Int)(n k:Nat)(K:Ex->St->Prop):aF tbE (aB tbR 0) tbF (tbP++[0]++tbI) 2 K (tbT t (.own 1 0 5 m) (some (.row 123 5 m g)) i r X Y n k)=
 (Br (decide ((↑k:Int)<(↑n:Int))) (Br (decide (0<=(↑k:Int))&&decide ((↑k:Int)<(↑r:Int))) (Br (decide (0<=IntKind.i64.wrap ((↑k:Int)+1))&&decide (IntKind.i64.wrap ((↑k:Int)+1)<(↑r:Int))) (Br (decide ((m+1)*40<=1099511627776)&&decide (m+1<9223372036854775808)&&decide (m=m)) (K Ex.normal {tmps:=[(3,SV.own 1 0 5 (m+1)),(4,SV.int .i64 (↑i:Int)),(5,SV.ro r 2 (bE X Y)),(21,SV.int .i64 (↑n:Int)),(22,SV.int .i64 (IntKind.i64.wrap ((↑k:Int)+1))),(8,SV.ro t.nr 1 (cH t)),(9,SV.int .i64 (↑t.nr:Int)),(10,SV.int .i64 (↑i:Int))],store:=[(1,some (SB.row 123 5 (m+1) (bI m [SV.int .i64 (X (↑k:Int).toNat),SV.int .i64 (Y (↑k:Int).toNat),SV.int .i64 (X (IntKind.i64.wrap ((↑k:Int)+1)).toNat),SV.int .i64 (Y (IntKind.i64.wrap ((↑k:Int)+1)).toNat),SV.int .i64 (↑i:Int)] g)))],nxt:=2,dirty:=[1,2,3,4,5],nt:=42}) (False)) (False)) (False)) (K (Ex.exit 2) {tmps:=[(3,SV.own 1 0 5 m),(4,SV.int .i64 (↑i:Int)),(5,SV.ro r 2 (bE X Y)),(21,SV.int .i64 (↑n:Int)),(22,SV.int .i64 (↑k:Int)),(8,SV.ro t.nr 1 (cH t)),(9,SV.int .i64 (↑t.nr:Int)),(10,SV.int .i64 (↑i:Int))],store:=[(1,some (SB.row 123 5 m g))],nxt:=2,dirty:=[1,2,3,4,5],nt:=42})):=by kernel_rfl
theorem YO(t:Trk)(i r:Nat)(X Y:Nat->Int)(n k:Nat)(K:Ex->St->Prop):jI tbE (aB tbR 0) tbF tbP 0 tbI K (.exit 2) (tbT t .nils none i r X Y n k)=
 (K Ex.normal {tmps:=[(3,SV.nils),(8,SV.ro t.nr 1 (cH t)),(9,SV.int .i64 (↑t.nr:Int)),(10,SV.int .i64 (IntKind.i64.wrap ((↑i:Int)+1)))],store:=[(1,none)],nxt:=2,dirty:=[1,2,3,4,5],nt:=42}):=by kernel_rfl
theorem Z4(t:Trk)(m:Nat)(g:Nat->List SV)(i r:Nat)(X Y:Nat->Int)(n k:Nat)(K:Ex->St->Prop):jI tbE (aB tbR 0) tbF tbP 0 tbI K (.exit 2) (tbT t (.own 1 0 5 m) (some (.row 123 5 m g)) i r X Y n k)=
 (K Ex.normal {tmps:=[(3,SV.own 1 0 5 m),(8,SV.ro t.nr 1 (cH t)),(9,SV.int .i64 (↑t.nr:Int)),(10,SV.int .i64 (IntKind.i64.wrap ((↑i:Int)+1)))],store:=[(1,some (SB.row 123 5 m g))],nxt:=2,dirty:=[1,2,3,4,5],nt:=42}):=by kernel_rfl
theorem VN(t:Trk)(i:Nat)(K:KC):aE tbE (aB tbR 0) tbF tbP 0 K (.exit 0) (tbS t .nils none i)=
 (K SV.nils [] []):=by kernel_rfl
theorem V8(t:Trk)(m:Nat)(g:Nat->List SV)(i:Nat)(K:KC):aE tbE (aB tbR 0) tbF tbP 0 K (.exit 0) (tbS t (.own 1 0 5 m) (some (.row 123 5 m g)) i)=
 (K (SV.own 0 0 5 m) [some (SB.row 123 5 m g)] []):=by kernel_rfl
theorem Z2 (t:Trk) (i n:Nat) (L0:List Bar) (hi:i<20) (hr:t.rn i<=100) (hn:n=t.rn i - 1) (hL:L0.length<=2000) (K:Ex->St->Prop)
  (hK: ∀o b,cB H3 5 1 bsv (L0++mP t i n) o b->K .normal (tbS t o b (i+1:Nat))):
  ∀(f:Nat) (a:Nat×SV×Option SB),(a.1<=n/\cB H3 5 1 bsv (L0++mP t i a.1) a.2.1 a.2.2)->n - a.1<f->
   iter (aF tbE (aB tbR 0) tbF (tbP++[0]++tbI) 2) (jI tbE (aB tbR 0) tbF tbP 0 tbI K) f (tbT t a.2.1 a.2.2 i (t.rn i) (t.rx i) (t.ry i) n a.1):=
 gV (fun a:Nat×SV×Option SB=>tbT t a.2.1 a.2.2 i (t.rn i) (t.rx i) (t.ry i) n a.1) (fun a=>n - a.1) (fun a=>a.1<=n/\cB H3 5 1 bsv (L0++mP t i a.1) a.2.1 a.2.2) (fun a=>by
  obtain ⟨k,o,b⟩:=a
  rintro ⟨hk,ht⟩ Z hZ
  simp only at hk ht hZ|-
  rcases ht with ⟨hl,rfl,rfl⟩|⟨g,hl,rfl,rfl,hg⟩
  ·rw [aEP]
   refine Br.of (fun c=>Br.of (fun _=>Br.of (fun _=> ?_) fun c1=> ?_) fun c1=> ?_) fun c=> ?_
   ·have c':=of_decide_eq_true c
    show Z _
    rw [aO (n:=n) (by omega) (by omega)]
    simp only [Int.toNat_natCast]
    refine hZ (k+1,_,_) ⟨by show k+1<=n;omega, ?_⟩ (by show n - (k+1)<n - k;omega)
    show cB H3 5 1 bsv (L0++mP t i (k+1)) _ _
    rw [AI,<- List.append_assoc,hl,List.nil_append]
    exact eO (J3 t i k) rfl
   ·have c':=of_decide_eq_true c
    rw [aO (n:=n) (by omega) (by omega)] at c1
    simp only [Bool.and_eq_false_iff,decide_eq_false_iff_not] at c1;omega
   ·have c':=of_decide_eq_true c
    simp only [Bool.and_eq_false_iff,decide_eq_false_iff_not] at c1;omega
   ·have c':=of_decide_eq_false c
    have hkn:k=n:=by omega
    subst hkn
    show jI tbE (aB tbR 0) tbF tbP 0 tbI K (.exit 2) (tbT t .nils none i (t.rn i) (t.rx i) (t.ry i) k k)
    rw [YO,aO (n:=20) (by omega) (by omega)]
    exact hK _ _ (.inl ⟨hl,rfl,rfl⟩)
  ·rw [aEC]
   have hlen:(L0++mP t i k).length<=2100:=by rw [List.length_append,FF];omega
   refine Br.of (fun c=>Br.of (fun _=>Br.of (fun _=>Br.of (fun _=> ?_) fun c1=> ?_) fun c1=> ?_) fun c1=> ?_) fun c=> ?_
   ·have c':=of_decide_eq_true c
    show Z _
    rw [aO (n:=n) (by omega) (by omega)]
    simp only [Int.toNat_natCast]
    refine hZ (k+1,_,_) ⟨by show k+1<=n;omega, ?_⟩ (by show n - (k+1)<n - k;omega)
    show cB H3 5 1 bsv (L0++mP t i (k+1)) _ _
    rw [AI,<- List.append_assoc]
    exact fM (J3 t i k) rfl hg
   ·rw [Bool.and_eq_false_iff,Bool.and_eq_false_iff] at c1
    rcases c1 with (c1|c1)|c1
    ·have:=of_decide_eq_false c1;omega
    ·have:=of_decide_eq_false c1;omega
    ·exact absurd rfl (of_decide_eq_false c1)
   ·have c':=of_decide_eq_true c
    rw [aO (n:=n) (by omega) (by omega)] at c1
    simp only [Bool.and_eq_false_iff,decide_eq_false_iff_not] at c1;omega
   ·have c':=of_decide_eq_true c
    simp only [Bool.and_eq_false_iff,decide_eq_false_iff_not] at c1;omega
   ·have c':=of_decide_eq_false c
    have hkn:k=n:=by omega
    subst hkn
    show jI tbE (aB tbR 0) tbF tbP 0 tbI K (.exit 2) (tbT t _ _ i (t.rn i) (t.rx i) (t.ry i) k k)
    rw [Z4,aO (n:=20) (by omega) (by omega)]
    exact hK _ _ (.inr ⟨g,hl,rfl,rfl,hg⟩))
theorem WY(t:Trk)(hs:iJ t)(K:KC)(hK:nN H3 5 bsv (wN t) K):eA tbR (fun _=>0) p9 2 148 [.agg (aM t)] [] K:=by
 rw [X9]
 obtain ⟨hs1,hs2⟩:=hs
 refine ⟨t.nr+1,gV (fun a:Nat×SV×Option SB=>tbS t a.2.1 a.2.2 a.1) (fun a=>t.nr - a.1) (fun a=>a.1<=t.nr/\cB H3 5 1 bsv (nX t a.1) a.2.1 a.2.2) (fun a=> ?_) (t.nr+1) (0,.nils,none) ⟨Nat.zero_le _,kQ⟩ (by omega)⟩
 obtain ⟨i,o,b⟩:=a
 rintro ⟨hi,ht⟩ Z hZ
 simp only at hi ht hZ|-
 have hlen:(nX t i).length<=2000:=by
  have:=s8 hs2 i hi
  have:i*100<=20*100:=Nat.mul_le_mul_right _ (by omega)
  omega
 have hinner:i<t.nr-> ∃q,iter (aF tbE (aB tbR 0) tbF (tbP++[0]++tbI) 2) (jI tbE (aB tbR 0) tbF tbP 0 tbI (eT Z (aE tbE (aB tbR 0) tbF tbP 0 K))) q (tbT t o b i (t.rn i) (t.rx i) (t.ry i) (t.rn i - 1:Nat) 0):=fun hlt=>
  ⟨(t.rn i - 1)+1,Z2 t i (t.rn i - 1) (nX t i) (by omega) (hs2 i hlt) rfl hlen _ (fun o b h=>hZ (i+1,o,b) ⟨hlt,h⟩ (by show t.nr - (i+1)<t.nr - i;omega)) _ (0,o,b)
   ⟨Nat.zero_le _,by show cB H3 5 1 bsv (nX t i++mP t i 0) o b;rw [show mP t i 0=[] from rfl,List.append_nil];exact ht⟩ (by show t.rn i - 1 - 0<_;omega)⟩
 have hend:i=t.nr->cB H3 5 1 bsv (wN t) o b:=fun h=>by subst h;exact ht
 rcases ht with ⟨hl,rfl,rfl⟩|⟨g,hl,rfl,rfl,hg⟩
 ·rw [U3]
  refine Br.of (fun c=>Br.of (fun _=>Br.of (fun _=> ?_) fun c1=> ?_) fun c1=> ?_) fun c=> ?_
  ·have c':=of_decide_eq_true c
   have:=hs2 i (by omega)
   simp only [Int.toNat_natCast]
   rw [wR (by omega)]
   simp only [Int.toNat_natCast,Nat.sub_zero]
   exact hinner (by omega)
  ·have c':=of_decide_eq_true c
   have:=hs2 i (by omega)
   simp only [Int.toNat_natCast] at c1
   rw [wR (by omega)] at c1
   simp only [Bool.true_and,Bool.and_eq_false_iff,decide_eq_false_iff_not] at c1;omega
  ·have c':=of_decide_eq_true c
   simp only [Bool.and_eq_false_iff,decide_eq_false_iff_not] at c1;omega
  ·have c':=of_decide_eq_false c
   show aE tbE (aB tbR 0) tbF tbP 0 K (.exit 0) (tbS t .nils none i)
   rw [VN]
   rcases hend (by omega) with ⟨h,_,_⟩|⟨_,_,h,_⟩
   ·exact hK.1 h
   ·cases h
 ·rw [VR]
  refine Br.of (fun c=>Br.of (fun _=>Br.of (fun _=> ?_) fun c1=> ?_) fun c1=> ?_) fun c=> ?_
  ·have c':=of_decide_eq_true c
   have:=hs2 i (by omega)
   simp only [Int.toNat_natCast]
   rw [wR (by omega)]
   simp only [Int.toNat_natCast,Nat.sub_zero]
   exact hinner (by omega)
  ·have c':=of_decide_eq_true c
   have:=hs2 i (by omega)
   simp only [Int.toNat_natCast] at c1
   rw [wR (by omega)] at c1
   simp only [Bool.true_and,Bool.and_eq_false_iff,decide_eq_false_iff_not] at c1;omega
  ·have c':=of_decide_eq_true c
   simp only [Bool.and_eq_false_iff,decide_eq_false_iff_not] at c1;omega
  ·have c':=of_decide_eq_false c
   show aE tbE (aB tbR 0) tbF tbP 0 K (.exit 0) (tbS t _ _ i)
   rw [V8]
   have hi':i=t.nr:=by omega
   subst hi'
   exact hK.2 g hl hg
theorem aB1(t:Trk)(hs:iJ t):aD Tryz.prog 148 [.agg (aM t)] [] (.ro (wN t).length 5 (G8 (wN t))) [] []:=
 yE (fun _=>rfl) fun K hK=>bX (env:=tab.env p9 (fun _=>0) (fun _=>false)) ⟨tab.htt,p9.ok⟩ tab.mixed (fun n=>bC n tbR) tab.hft 2 _ _ _ K (WY t hs K hK)
end Go.Proofs.YtghnfjfkjhbgdaaGreatDoor
namespace Go.Proofs.YtghnfjfkjhbgdaaGreatDoor
open Go.Se
set_option maxRecDepth 100000
def sP(nr:Nat)(rl:Nat->List SV):Prop:=nr<=20/\ ∀i,i<nr->aBi (rl i)<=100
def ZK :List SV->List (Option SB)->KC->Prop
 | [.agg [.int .i64 a0,.int .i64 a1,.int .i64 a2,.int .i64 a3,.int .i64 a4,.int .i64 a5,.ro nh 1 h,.ro ng 1 g,.ro nk 3 kg,.ro nl 2 l,.ro nr 1 rl,.ro nt 5 gt,.int .i64 sx,.int .i64 sy,.int .u32 hd,.int .i64 lp]],[],K=>kE h g kg l rl gt/\sP nr rl/\K (.ro (wN (mC a0 a1 a2 a3 a4 a5 nh h ng g nk kg nl l nr rl nt gt sx sy hd lp)).length 5 (G8 (wN (mC a0 a1 a2 a3 a4 a5 nh h ng g nk kg nl l nr rl nt gt sx sy hd lp)))) [] []
 |_,_,_=>False
theorem YK(xs:List SV)(σ:List (Option SB)):Sat Tryz.prog 148 xs σ (ZK xs σ):=by
 intro K hK
 unfold ZK at hK
 split at hK
 ·obtain ⟨h1,h2,hK⟩:=hK
  refine ⟨_,_,_,hK, ?_⟩
  rw [k9 h1]
  exact aB1 _ h2
 ·exact hK.elim
def zG(v:Trk->Int×Int):List SV->List (Option SB)->KC->Prop
 | [.agg [.int .i64 a0,.int .i64 a1,.int .i64 a2,.int .i64 a3,.int .i64 a4,.int .i64 a5,.ro nh 1 h,.ro ng 1 g,.ro nk 3 kg,.ro nl 2 l,.ro nr 1 rl,.ro nt 5 gt,.int .i64 sx,.int .i64 sy,.int .u32 hd,.int .i64 lp]],[],K=>kE h g kg l rl gt/\sP nr rl/\pU (v (mC a0 a1 a2 a3 a4 a5 nh h ng g nk kg nl l nr rl nt gt sx sy hd lp)) K
 |_,_,_=>False
theorem aA5{c:Int×Int}{K:KC}(h:pU c K): ∃v σ' d,K v σ' d:=by
 unfold pU at h
 cases hc:c.1==0<;>rw [hc] at h<;>exact ⟨_,_,_,h⟩
theorem sH{k:FuncId}{v:Trk->Int×Int}(h: ∀t:Trk,iJ t->t.nr<9223372036854775808->t.nt<9223372036854775808->Sat Tryz.prog k [.agg (aM t)] [] (pU (v t)))(xs:List SV)(σ:List (Option SB)):Sat Tryz.prog k xs σ (zG v xs σ):=by
 refine oR (fun K hK=> ?_) fun hx _ K hK=> ?_<;>unfold zG at hK<;>split at hK
 ·exact aA5 hK.2.2
 ·exact hK.elim
 ·obtain ⟨⟨_,_,_,_,_,_,_,_,_,_,hr,ht,_⟩,_⟩:=hx
  rw [k9 hK.1]
  refine h _ ?_ hr.1 ht.1 K hK.2.2
  exact hK.2.1
 ·exact hK.elim
theorem O3(xs:List SV)(σ:List (Option SB)):Sat Tryz.prog 98 xs σ (zG (fun t=>(hC t,0)) xs σ):=
 sH (fun t _ _ _ K hK=>bX (env:=tab.env p9 (fun _=>0) (fun _=>false)) ⟨tab.htt,p9.ok⟩ tab.mixed (fun n=>bC n []) tab.hft 4 _ _ _ K (NK t K hK)) xs σ
theorem S8(xs:List SV)(σ:List (Option SB)):Sat Tryz.prog 99 xs σ (zG oH xs σ):=
 sH (fun t _ h _ K hK=>bX (env:=tab.env p9 (fun _=>0) (fun _=>false)) ⟨tab.htt,p9.ok⟩ tab.mixed (fun n=>bC n zK) tab.hft 4 _ _ _ K (V7 t h K hK)) xs σ
theorem S9(xs:List SV)(σ:List (Option SB)):Sat Tryz.prog 100 xs σ (zG oI xs σ):=
 sH (fun t _ _ h K hK=>bX (env:=tab.env p9 (fun _=>0) (fun _=>false)) ⟨tab.htt,p9.ok⟩ tab.mixed (fun n=>bC n zN) tab.hft 4 _ _ _ K (VW t h K hK)) xs σ
noncomputable def p10 :bT Tryz.prog:=(((((p9).add 148 ZK YK).add 98 (zG (fun t=>(hC t,0))) O3).add 99 (zG oH) S8).add 100 (zG oI) S9).add 149 (one Q4) (bD fun xs σ v σ' d h=>by
  unfold Q4 at h;split at h<;>cases h;first|exact dK|exact dK _|exact dK _ _|exact dK _ _ _|exact dK _ _ _ _|exact dK _ _ _ _ _|exact dK _ _ _ _ _ _|exact dK _ _ _ _ _ _ _|exact dK _ _ _ _ _ _ _ _|exact dK _ _ _ _ _ _ _ _ _|exact dK _ _ _ _ _ _ _ _ _ _|exact dK _ _ _ _ _ _ _ _ _ _ _)
def tsR :List (Nat×eR):=[(0,⟨[1,2,60,61,62],[0,4],[1,2,3,4,5,6,7],5,[(2,4)]⟩)]
def tsS(t:Trk)(L:List Bar)(i:Int):St:=⟨[(1,.ptr 0 0),(2,.nilI),(60,.ro L.length 5 (G8 L)),(61,.int .i64 L.length),(62,.int .i64 i)],[(0,some (.cells 34 (aM t))),(4,none)],5,[1,2,3,4,5,6,7],88⟩
def tsT(t:Trk)(L:List Bar)(c a i:Int):St:=⟨[(1,.ptr 0 0),(2,.iface 91 (.ptr 4 0)),(60,.ro L.length 5 (G8 L)),(61,.int .i64 L.length),(62,.int .i64 i)],[(0,some (.cells 34 (aM t))),(4,some (.cells 98 [.int .i64 c,.int .i64 a]))],5,[1,2,3,4,5,6,7],88⟩
noncomputable abbrev tsE :Env:=fW tsR (fun _=>0) p10 3
noncomputable abbrev tsF :Func:=Tryz.f101
abbrev tsP :List Nat:=[1,1,1,1,0,1,0]
theorem Y4(t:Trk)(K:KC):eA tsR (fun _=>0) p10 4 101 [.agg (aM t)] [] K=
 (Br (decide (t.sx<t.cx)) (K (SV.iface 91 (SV.ptr 0 0)) [some (SB.cells 98 [SV.int .i64 40,SV.int .i64 0])] []) (Br (decide (t.sy<t.cy)) (K (SV.iface 91 (SV.ptr 0 0)) [some (SB.cells 98 [SV.int .i64 40,SV.int .i64 0])] []) (Br (decide (t.sx>IntKind.i64.wrap (t.cx+IntKind.i64.wrap (t.cols*t.cell)))) (K (SV.iface 91 (SV.ptr 0 0)) [some (SB.cells 98 [SV.int .i64 40,SV.int .i64 0])] []) (Br (decide (t.sy>IntKind.i64.wrap (t.cy+IntKind.i64.wrap (t.rows*t.cell)))) (K (SV.iface 91 (SV.ptr 0 0)) [some (SB.cells 98 [SV.int .i64 40,SV.int .i64 0])] []) ((kE (aP t.h) (aP t.g) (eY t) (bS t.lx t.ly) (cH t) (eV t))/\((sP t.nr (cH t))/\(∃q_,bO tsE (aB tsR 0) tsF tsP 0 0 K q_ {tmps:=[(1,SV.ptr 0 0),(2,SV.nilI),(60,SV.ro (wN t).length 5 (G8 (wN t))),(61,SV.int .i64 (↑(wN t).length:Int)),(62,SV.int .i64 0)],store:=[(0,some (SB.cells 34 (aM t))),(4,none)],nxt:=5,dirty:=[1,2,3,4,5,6,7],nt:=88}))))))):=by kernel_rfl
theorem J0(t:Trk)(L:List Bar)(i:Nat)(K:Ex->St->Prop):aF tsE (aB tsR 0) tsF tsP 0 K (tsS t L i)=
 (Br (decide ((↑i:Int)<(↑L.length:Int))) (Br (decide (0<=(↑i:Int))&&decide ((↑i:Int)<(↑L.length:Int))) (Br (decide (0<OT (L.getD (↑i:Int).toNat xL).fst (L.getD (↑i:Int).toNat xL).snd.fst (L.getD (↑i:Int).toNat xL).snd.snd.fst (L.getD (↑i:Int).toNat xL).snd.snd.snd.fst t.sx t.sy)) (Br (decide (OT (L.getD (↑i:Int).toNat xL).fst (L.getD (↑i:Int).toNat xL).snd.fst (L.getD (↑i:Int).toNat xL).snd.snd.fst (L.getD (↑i:Int).toNat xL).snd.snd.snd.fst t.sx t.sy<=17179869184)) (K Ex.ret {tmps:=[(1,SV.ptr 0 0),(2,SV.iface 91 (SV.ptr 4 0)),(60,SV.ro L.length 5 (G8 L)),(61,SV.int .i64 (↑L.length:Int)),(62,SV.int .i64 (↑i:Int))],store:=[(0,some (SB.cells 34 (aM t))),(4,some (SB.cells 98 [SV.int .i64 43,SV.int .i64 0]))],nxt:=5,dirty:=[1,2,3,4,5,6,7],nt:=88}) (K Ex.normal {tmps:=[(1,SV.ptr 0 0),(2,SV.nilI),(60,SV.ro L.length 5 (G8 L)),(61,SV.int .i64 (↑L.length:Int)),(62,SV.int .i64 (IntKind.i64.wrap ((↑i:Int)+1)))],store:=[(0,some (SB.cells 34 (aM t))),(4,none)],nxt:=5,dirty:=[1,2,3,4,5,6,7],nt:=88})) (K Ex.normal {tmps:=[(1,SV.ptr 0 0),(2,SV.nilI),(60,SV.ro L.length 5 (G8 L)),(61,SV.int .i64 (↑L.length:Int)),(62,SV.int .i64 (IntKind.i64.wrap ((↑i:Int)+1)))],store:=[(0,some (SB.cells 34 (aM t))),(4,none)],nxt:=5,dirty:=[1,2,3,4,5,6,7],nt:=88})) (False)) (K (Ex.exit 0) {tmps:=[(1,SV.ptr 0 0),(2,SV.nilI),(60,SV.ro L.length 5 (G8 L)),(61,SV.int .i64 (↑L.length:Int)),(62,SV.int .i64 (↑i:Int))],store:=[(0,some (SB.cells 34 (aM t))),(4,none)],nxt:=5,dirty:=[1,2,3,4,5,6,7],nt:=88})):=by kernel_rfl
theorem aFr(t:Trk)(L:List Bar)(c a i:Int)(K:KC):aE tsE (aB tsR 0) tsF tsP 0 K .ret (tsT t L c a i)=
 (K (SV.iface 91 (SV.ptr 0 0)) [some (SB.cells 98 [SV.int .i64 c,SV.int .i64 a])] []):=by kernel_rfl
theorem Z1(t:Trk)(L:List Bar)(i:Int)(K:KC):aE tsE (aB tsR 0) tsF tsP 0 K (.exit 0) (tsS t L i)=
 (Br (decide (1<=t.laps)) (Br (!!decide (t.laps<=100)) (K SV.nilI [] []) (K (SV.iface 91 (SV.ptr 0 0)) [some (SB.cells 98 [SV.int .i64 40,SV.int .i64 0])] [])) (K (SV.iface 91 (SV.ptr 0 0)) [some (SB.cells 98 [SV.int .i64 40,SV.int .i64 0])] [])):=by kernel_rfl
theorem TO(t:Trk)(hs:iJ t)(K:KC)(hK:pU (oB t) K):eA tsR (fun _=>0) p10 4 101 [.agg (aM t)] [] K:=by
 rw [Y4]
 unfold oB aCB at hK
 refine Br.of (fun c1=> ?_) fun c1=>Br.of (fun c2=> ?_) fun c2=>Br.of (fun c3=> ?_) fun c3=>Br.of (fun c4=> ?_) fun c4=>⟨fT t,hs, ?_⟩
 ·rw [c1] at hK;exact hK
 ·rw [c1,c2] at hK;exact hK
 ·rw [c1,c2,c3] at hK;exact hK
 ·rw [c1,c2,c3,c4] at hK;exact hK
 rw [c1,c2,c3,c4] at hK
 simp only [Bool.or_false,cond_false] at hK
 have hlen:(wN t).length<=2000:=by
  have:=s8 hs.2 t.nr (Nat.le_refl _)
  have h2:t.nr*100<=20*100:=Nat.mul_le_mul_right _ hs.1
  unfold wN
  omega
 generalize hLL:wN t=L at hlen|-
 refine ⟨L.length+1,iQ (fun i:Nat=>tsS t L i) L.length (fun i=> ∀j,j<i->vS t (L.getD j xL)=false) (fun i hi hI X hX=> ?_) (fun hI X=> ?_) (fun j hj=>absurd hj (Nat.not_lt_zero j))⟩
 ·have hret:vS t (L.getD i xL)=true->eT X (aE tsE (aB tsR 0) tsF tsP 0 K) .ret (tsT t L 43 0 i):=fun h=>by
   show aE tsE (aB tsR 0) tsF tsP 0 K .ret (tsT t L 43 0 i)
   rw [aFr]
   rw [show qH t=true by unfold qH;rw [hLL];exact sA.2 ⟨i,hi,h⟩] at hK
   exact hK
  have hnext:vS t (L.getD i xL)=false->eT X (aE tsE (aB tsR 0) tsF tsP 0 K) .normal (tsS t L (i+1:Nat)):=fun h=>hX fun j hj=>by
   rcases Nat.lt_or_eq_of_le (Nat.le_of_lt_succ hj) with hj|rfl
   ·exact hI j hj
   ·exact h
  rw [J0,aO (n:=L.length) hi (by omega)]
  simp only [Int.toNat_natCast]
  unfold vS at hret hnext
  refine Br.of (fun _=>Br.of (fun _=>Br.of (fun c1=>Br.of (fun c2=>hret ?_) fun c2=>hnext ?_) fun c1=>hnext ?_) fun c=> ?_) fun c=> ?_
  ·rw [c1,c2];rfl
  ·rw [c1,c2];rfl
  ·rw [c1];rfl
  ·simp only [Bool.and_eq_false_iff,decide_eq_false_iff_not] at c;omega
  ·have:=of_decide_eq_false c;omega
 ·rw [J0]
  refine Br.of (fun c=>absurd (of_decide_eq_true c) (by omega)) fun _=> ?_
  show aE tsE (aB tsR 0) tsF tsP 0 K (.exit 0) (tsS t L L.length)
  rw [Z1]
  rw [show qH t=false by unfold qH;rw [hLL];exact kT.2 hI] at hK
  unfold LZ at hK
  simp only [cond_false] at hK
  refine Br.of (fun d1=>Br.of (fun d2=> ?_) fun d2=> ?_) fun d1=> ?_
  ·rw [d1,show decide (t.laps<=100)=true by rw [Bool.not_not] at d2;exact d2] at hK;exact hK
  ·rw [d1,show decide (t.laps<=100)=false by rw [Bool.not_not] at d2;exact d2] at hK;exact hK
  ·rw [d1] at hK;exact hK
theorem TV(xs:List SV)(σ:List (Option SB)):Sat Tryz.prog 101 xs σ (zG oB xs σ):=
 sH (fun t hs _ _ K hK=>bX (env:=tab.env p10 (fun _=>0) (fun _=>false)) ⟨tab.htt,p10.ok⟩ tab.mixed (fun n=>bC n tsR) tab.hft 4 _ _ _ K (TO t hs K hK)) xs σ
noncomputable def p11 :bT Tryz.prog:=(p10).add 101 (zG oB) TV
theorem WV(t:Trk)(K:KC):run p11 2 56 [.agg (aM t)] [] K=
 ((kE (aP t.h) (aP t.g) (eY t) (bS t.lx t.ly) (cH t) (eV t))/\((sP t.nr (cH t))/\(Br (((fun (t:Trk)=>(hC t,0)) t).fst==0) ((kE (aP t.h) (aP t.g) (eY t) (bS t.lx t.ly) (cH t) (eV t))/\((sP t.nr (cH t))/\(Br ((oH t).fst==0) ((kE (aP t.h) (aP t.g) (eY t) (bS t.lx t.ly) (cH t) (eV t))/\((sP t.nr (cH t))/\(Br ((oI t).fst==0) ((kE (aP t.h) (aP t.g) (eY t) (bS t.lx t.ly) (cH t) (eV t))/\((sP t.nr (cH t))/\(Br ((oB t).fst==0) (K SV.nilI [] []) (K (SV.iface 91 (SV.ptr 0 0)) [some (SB.cells 98 [SV.int .i64 (oB t).fst,SV.int .i64 (oB t).snd])] [])))) (K (SV.iface 91 (SV.ptr 0 0)) [some (SB.cells 98 [SV.int .i64 (oI t).fst,SV.int .i64 (oI t).snd])] [])))) (K (SV.iface 91 (SV.ptr 0 0)) [some (SB.cells 98 [SV.int .i64 (oH t).fst,SV.int .i64 (oH t).snd])] [])))) (K (SV.iface 91 (SV.ptr 0 0)) [some (SB.cells 98 [SV.int .i64 ((fun (t:Trk)=>(hC t,0)) t).fst,SV.int .i64 ((fun (t:Trk)=>(hC t,0)) t).snd])] [])))):=by kernel_rfl
theorem i9{x:Int}{b:Bool}(h:(x==0)=b):(x !=0)= !b:=by rw [<- h];rfl
theorem T6(t:Trk)(hs:iJ t)(K:KC)(hK:pU (cD t) K):run p11 2 56 [.agg (aM t)] [] K:=by
 rw [WV]
 unfold cD orV at hK
 refine ⟨fT t,hs,Br.of (fun c1=>⟨fT t,hs,Br.of (fun c2=>⟨fT t,hs,Br.of (fun c3=>⟨fT t,hs,Br.of (fun c4=> ?_) fun c4=> ?_⟩) fun c3=> ?_⟩) fun c2=> ?_⟩) fun c1=> ?_⟩
 ·have c1':(hC t==0)=true:=c1
  simp only [i9 c1',i9 c2,i9 c3,Bool.not_true,cond_false] at hK
  unfold pU at hK;rw [c4] at hK;exact hK
 ·have c1':(hC t==0)=true:=c1
  simp only [i9 c1',i9 c2,i9 c3,Bool.not_true,cond_false] at hK
  unfold pU at hK;rw [c4] at hK;exact hK
 ·have c1':(hC t==0)=true:=c1
  simp only [i9 c1',i9 c2,i9 c3,Bool.not_true,Bool.not_false,cond_false,cond_true] at hK
  unfold pU at hK;rw [c3] at hK;exact hK
 ·have c1':(hC t==0)=true:=c1
  simp only [i9 c1',i9 c2,Bool.not_true,Bool.not_false,cond_false,cond_true] at hK
  unfold pU at hK;rw [c2] at hK;exact hK
 ·have c1':(hC t==0)=false:=c1
  simp only [i9 c1',Bool.not_false,cond_true] at hK
  unfold pU at hK
  simp only [c1'] at hK
  exact hK
theorem VE(xs:List SV)(σ:List (Option SB)):Sat Tryz.prog 56 xs σ (zG cD xs σ):=
 sH (fun t hs _ _ K hK=>bX (env:=tab.env p11 (fun _=>0) (fun _=>false)) ⟨tab.htt,p11.ok⟩ tab.mixed (fun n=>bC n []) tab.hft 2 _ _ _ K (T6 t hs K hK)) xs σ
noncomputable def p12 :bT Tryz.prog:=((p11).add 56 (zG cD) VE).add 55 cAs Y7
theorem ZP(t:Trk)(K:KC):run p12 2 14 [.agg (aM t)] [] K=
 ((kE (aP t.h) (aP t.g) (eY t) (bS t.lx t.ly) (cH t) (eV t))/\((sP t.nr (cH t))/\(Br ((cD t).fst==0) (K (SV.tup [SV.int .i64 0,SV.int .i64 0]) [] []) (K (SV.tup [SV.int .i64 (cD t).fst,SV.int .i64 (cD t).snd]) [] [])))):=by kernel_rfl
theorem XV{a b:Int×Int}(ha:a.1=0->a.2=0)(hb:b.1=0->b.2=0):(orV a b).1=0->(orV a b).2=0:=by
 unfold orV
 cases h:a.1 !=0
 ·exact hb
 ·exact ha
theorem M8{c:Nat->Int}: ∀f i,(uB c f i).1=0->(uB c f i).2=0
 |0,_=>fun _=>rfl
 |f+1,i=>by
  unfold uB
  cases h:c i !=0
  ·exact M8 f (i+1)
  ·intro h1
   have h1':c i=0:=h1
   rw [h1'] at h;cases h
theorem ZU(t:Trk):(cD t).1=0->(cD t).2=0:=by
 unfold cD
 refine XV (fun _=>rfl) (XV ?_ (XV ?_ ?_))
 ·unfold oH;cases decide ((t.nr:Int)>16)
  ·exact M8 _ _
  ·exact fun _=>rfl
 ·unfold oI;cases !(decide ((1:Int)<=t.nt)&&decide ((t.nt:Int)<=16))
  ·exact M8 _ _
  ·exact fun _=>rfl
 ·unfold oB;cases aCB t<;>cases qH t<;>cases !LZ t<;>exact fun _=>rfl
theorem U8(t:Trk)(hs:iJ t)(K:KC)(hK:K (.tup [.int .i64 (cD t).1,.int .i64 (cD t).2]) [] []):run p12 2 14 [.agg (aM t)] [] K:=by
 rw [ZP]
 refine ⟨fT t,hs,Br.of (fun c=> ?_) fun c=> ?_⟩
 ·have c':=eq_of_beq c
  rw [ZU t c',c'] at hK
  exact hK
 ·exact hK
end Go.Proofs.YtghnfjfkjhbgdaaGreatDoor
namespace Go.Se
theorem aEj{α:Type}{f:Nat->α}{n i:Nat}(h:i<n):f i∈lst f n:=List.mem_map.2 ⟨i,List.mem_range.2 h,rfl⟩
structure Y8 (t:Trk):Prop where
 gd:YR t
 nl:t.nl<=64
 nr:t.nr<=16
 rn: ∀i,i<t.nr->2<=t.rn i/\t.rn i<=64
 nt:t.nt<=16
 head:0<=t.head/\t.head<=4294967295
theorem RF{t:Trk}(h:(cD t).1=0)(hi:FZ t):Y8 t:=by
 have hk:=HW h hi
 have hc:=hk.cols
 have hr:=hk.rows
 have h1:=hk.nh
 have h2:=hk.ng
 have w: ∀x:Int,-10000<=x->x<=10000->IntKind.i64.wrap x=x:=fun x _ _=>by rw [IntKind.wrap_i64];omega
 simp only [BW,dC] at hc hr h1 h2
 have m1:=BL (a:=t.cols+1) (b:=t.rows+1) (N:=65) (M:=65) (by omega) (by omega) (by omega) (by omega)
 have m2:=BL (a:=t.cols) (b:=t.rows) (N:=64) (M:=64) (by omega) (by omega) (by omega) (by omega)
 unfold nHs at h1
 unfold nGs at h2
 rw [w (t.cols+1) (by omega) (by omega),w (t.rows+1) (by omega) (by omega),w ((t.cols+1)*(t.rows+1)) (by omega) (by omega)] at h1
 rw [w (t.cols*t.rows) (by omega) (by omega)] at h2
 exact {
  gd:=⟨hc,hr,by rw [<- h1,<- Int.toNat_mul (by omega) (by omega),Int.mul_comm],by rw [<- h2,<- Int.toNat_mul (by omega) (by omega),Int.mul_comm],by
   have:=hk.kinds.2.1
   simp only [BW,dC] at this;omega⟩
  nl:=by have:=hk.line.2.1;simp only [BW,dC] at this;omega
  nr:=by have:=hk.rails.2.1;simp only [BW,dC] at this;omega
  rn:=fun i hi=>by
   have:=hk.rails.2.2 _ (aEj (f:=fun i=>lst (fun k=>(t.rx i k,t.ry i k)) (t.rn i)) hi)
   rw [dC] at this;omega
  nt:=by have:=hk.gates.2.1;simp only [BW,dC] at this;omega
  head:=hi.head}
theorem yF{t:Trk}(h:YR t):(tB t).length<=700000:=by
 obtain ⟨⟨a1,a2⟩,⟨a3,a4⟩,a5,a6,a7⟩:=h
 have h1:=g9 (w:=rN) (aL (u3 t.rate) dR)
 have h2:=g9 (w:=rK) (aL (fA t.cell) dR)
 have h3:=g9 (w:=nM) (aL (u3 t.cols) (aL (u3 t.rows) dR))
 have h4:=g9 (w:=j0) (aL (fA t.cx) (aL (fA t.cy) dR))
 have h5:=iG (f:=xB t.h (t.cols+1).toNat) (B:=5000) (fun i=>DP (f:=t.h) (r:=i) (by omega)) (t.rows+1).toNat 0
 have h6:=iG (f:=xY t.g t.cols.toNat) (B:=5000) (fun i=>CD (f:=t.g) (r:=i) (by omega)) t.rows.toNat 0
 have h7:=iG (f:=CR t) (B:=200) (fun i=>by
  have:=g9 (w:=iK) (aL (fA (t.kg i)) (aL (fA (t.kd i)) (aL (aAb (t.ko i)) dR)))
  rw [show iK.length=4 from rfl] at this
  simp only [List.length_cons,List.length_nil] at this
  unfold CR;omega) t.nk 0
 rw [show rN.length=4 from rfl] at h1
 rw [show rK.length=4 from rfl] at h2
 rw [show nM.length=4 from rfl] at h3
 rw [show j0.length=6 from rfl] at h4
 simp only [List.length_cons,List.length_nil] at h1 h2 h3 h4
 have e:tB t=lnW rN [aJ t.rate]++lnW rK [aC t.cell]++lnW nM [aJ t.cols,aJ t.rows]++lnW j0 [aC t.cx,aC t.cy]++
  bK (xB t.h (t.cols+1).toNat) 0 (t.rows+1).toNat++bK (xY t.g t.cols.toNat) 0 t.rows.toNat++bK (CR t) 0 t.nk:=rfl
 rw [e]
 simp only [List.length_append];omega
def H4(t:Trk)(i:Nat):List Int:=lnW fK [aC (t.lx i),aC (t.ly i)]
def GM(t:Trk)(i:Nat):List Int:=lnW eC (dD (t.rx i) (t.ry i) 0 (t.rn i))
def CZ(t:Trk)(i:Nat):List Int:=lnW gA [aC (t.ax i),aC (t.ay i),aC (t.bx i),aC (t.sb i),gX (t.sp i)]
theorem IZ(t:Trk):aC5 t=bK (H4 t) 0 t.nl++bK (GM t) 0 t.nr++bK (CZ t) 0 t.nt++lnW gW [aC t.sx,aC t.sy,aJ t.head]++lnW pB [aJ t.laps]:=rfl
theorem uV {env:Env} {W:Nat->St->Option St} {fn:Func} {path:List Nat} {blk:Nat} {KK:Ex->St->Prop} (S:List Int->Int->St) (w:List Int) (p:Nat->List (List Int)) (n:Nat) (l0:List Int)
  (hn:n<=1000) (hw:bB w/\w.length<=100) (hp: ∀i,i<n->dW (p i)/\(p i).length<=200) (hl:l0.length<=100000000)
  (hr: ∀(i:Nat) (l:List Int),i<n->l.length<=200000000-> ∀X:St->Prop,(∀l',kS l' l w (p i)->X (S l' ((i+1:Nat):Int)))->aF env W fn path blk (eT X KK) (S l (i:Int)))
  (he: ∀l,jV l l0 (bK (fun i=>lnW w (p i)) 0 n)->l.length<=l0.length+n*10000-> ∀X:St->Prop,aF env W fn path blk (eT X KK) (S l (n:Int))):
  iter (aF env W fn path blk) KK (n+1) (S l0 ((0:Nat):Int)):=by
 refine gV (fun a:Nat×List Int=>S a.2 (a.1:Int)) (fun a=>n - a.1) (fun a=>(a.1<=n/\a.2=l0++bK (fun i=>lnW w (p i)) 0 a.1)/\a.2.length<=l0.length+a.1*10000) ?_ (n+1) (0,l0) ⟨⟨Nat.zero_le _,by show l0=l0++[];rw [List.append_nil]⟩,by show l0.length<=l0.length+0*10000;rw [Nat.zero_mul];exact Nat.le_refl _⟩ (by show n - 0<n+1;omega)
 rintro ⟨i,l⟩ ⟨⟨h1,h2⟩,h3⟩ X hX
 simp only at h1 h2 h3 hX|-
 by_cases hi:i<n
 ·refine hr i l hi (by omega) X fun l' hg=> ?_
  obtain ⟨o1,o2⟩:=hp i hi
  have hl':=lN hg o1
  have hwl:=hw.2
  refine hX (i+1,l') ⟨⟨hi, ?_⟩,by show l'.length<=l0.length+(i+1)*10000;omega⟩ (by show n - (i+1)<n - i;omega)
  unfold kS at hg
  rw [hg,h2,List.append_assoc,jK,Nat.zero_add]
 ·obtain rfl:i=n:=by omega
  exact he l h2 h3 X
end Go.Se
namespace Go.Proofs.YtghnfjfkjhbgdaaGreatDoor
open Go.Se
set_option maxRecDepth 100000
def cRt :List SV->List (Option SB)->KC->Prop
 | [.agg cs],[],K=> ∃t:Trk,(cs=aM t/\iJ t)/\K (.tup [.int .i64 (cD t).1,.int .i64 (cD t).2]) [] []
 |_,_,_=>False
theorem OB(xs:List SV)(σ:List (Option SB)):Sat Tryz.prog 14 xs σ (cRt xs σ):=by
 intro K hK
 unfold cRt at hK
 split at hK
 case h_2=>exact hK.elim
 obtain ⟨t,⟨rfl,h⟩,hK⟩:=hK
 exact bX (env:=tab.env p12 (fun _=>0) (fun _=>false)) ⟨tab.htt,p12.ok⟩ tab.mixed (fun n=>bC n []) tab.hft 2 _ _ _ K (U8 t h K hK)
noncomputable def n7 :bT Tryz.prog:=(n6).add 14 cRt OB
abbrev pnD :List Nat:=[0,1,2,3,4,5,6,7,8,9,10,11,12,13,14,15,16]
def pnR :List (Nat×eR×List ((Nat×List Nat)×Nat)):=[(0,⟨[1,6,7,28,29,30],[0,1,2,3],pnD,4,[]⟩,[((6,[1]),3)]),(2,⟨[1,6,7,41,42,43],[0,1,2,3],pnD,4,[]⟩,[((6,[1]),3)]),(4,⟨[1,6,7,53,54,55],[0,1,2,3],pnD,4,[]⟩,[((6,[1]),3)])]
noncomputable abbrev pnE :Env:=aBV pnR (fun _=>0) n7 3
noncomputable abbrev pnF :Func:=Tryz.f8
abbrev TW :List Nat:=[1,1,1,1,1,0,1,0]
abbrev S3 :List Nat:=[1,1,1,1,1,1,0,1,0]
abbrev U6 :List Nat:=[1,1,1,1,1,1,1,0,1,0]
def pnS(a b c:Nat)(v:SV)(n:Nat)(t:Trk)(l:List Int)(i:Int):St:=⟨[(1,.ptr 0 0),(6,.ptr 1 0),(7,.ptr 2 0),(a,v),(b,.int .i64 n),(c,.int .i64 i)],[(0,some (.cells 34 (aM t))),(1,some (.cells sbT [.ptr 1 0,.own 3 0 1 l.length])),(2,some (.cells pgT [.ptr 1 0])),(3,some (.row 5 1 l.length (tG l)))],4,pnD,92⟩
def MK(t:Trk)(l:List Int)(i:Int):St:=pnS 28 29 30 (.ro t.nl 2 (bS t.lx t.ly)) t.nl t l i
def JK(t:Trk)(l:List Int)(i:Int):St:=pnS 41 42 43 (.ro t.nr 1 (cH t)) t.nr t l i
def IF(t:Trk)(l:List Int)(i:Int):St:=pnS 53 54 55 (.ro t.nt 5 (eV t)) t.nt t l i
theorem aAO(t:Trk)(K:KC):BD pnR (fun _=>0) n7 4 8 [.agg (aM t)] [] K=
 (∃(e400:Trk),((aM t)=aM e400/\iJ e400)/\(Br ((cD e400).fst !=0) (K (SV.tup [SV.str (⟨#[]⟩:ByteArray),SV.int .i64 (cD e400).fst]) [] []) (∃(e397:Trk),((aM t)=aM e397/\YR e397)/\(∀(l395:List Int),∀(_:jV l395 [] (tB e397)),∃q_,bO pnE (bZ pnR 0) pnF TW 0 0 K q_ (MK t l395 0))))):=by kernel_rfl
theorem aDk(t:Trk)(l:List Int)(i:Nat)(K:Ex->St->Prop):aF pnE (bZ pnR 0) pnF TW 0 K (MK t l i)=
 (Br (decide ((↑i:Int)<(↑t.nl:Int))) (Br (decide (0<=(↑i:Int))&&decide ((↑i:Int)<(↑t.nl:Int))) (∃(e398:List Int),∃(e397:List (List Int)),∃(e396:List Int),(((⟨#[112,111,105,110,116]⟩:ByteArray)=bytesOf e398/\2=e397.length/\2=2/\d7 (aH [aC (t.lx (↑i:Int).toNat),aC (t.ly (↑i:Int).toNat)]) e397)/\eZ e398 e397/\l.length=e396.length/\l.length=e396.length/\tG l=tG e396/\e396.length<=1073741824)/\(∀(l394:List Int),∀(_:kS l394 e396 e398 e397),K Ex.normal (MK t l394 (IntKind.i64.wrap ((↑i:Int)+1))))) (False)) (K (Ex.exit 0) (MK t l (↑i:Int)))):=by kernel_rfl
theorem aDf(t:Trk)(l:List Int)(i:Nat)(K:Ex->St->Prop):aF pnE (bZ pnR 0) pnF S3 2 K (JK t l i)=
 (Br (decide ((↑i:Int)<(↑t.nr:Int))) (Br (decide (0<=(↑i:Int))&&decide ((↑i:Int)<(↑t.nr:Int))) (∃(e398:Nat->Int),∃(e397:Nat->Int),(bS (t.rx (↑i:Int).toNat) (t.ry (↑i:Int).toNat)=bS e398 e397/\t.rn (↑i:Int).toNat<=1048576)/\(∃(e395:List Int),∃(e394:List (List Int)),∃(e393:List Int),(((⟨#[114,97,105,108]⟩:ByteArray)=bytesOf e395/\2*t.rn (↑i:Int).toNat=e394.length/\d7 (aH (dD e398 e397 0 (t.rn (↑i:Int).toNat))) e394)/\eZ e395 e394/\l.length=e393.length/\l.length=e393.length/\tG l=tG e393/\e393.length<=1073741824)/\(∀(l391:List Int),∀(_:kS l391 e393 e395 e394),K Ex.normal (JK t l391 (IntKind.i64.wrap ((↑i:Int)+1)))))) (False)) (K (Ex.exit 2) (JK t l (↑i:Int)))):=by kernel_rfl
theorem aC9(t:Trk)(l:List Int)(i:Nat)(K:Ex->St->Prop):aF pnE (bZ pnR 0) pnF U6 4 K (IF t l i)=
 (Br (decide ((↑i:Int)<(↑t.nt:Int))) (Br (decide (0<=(↑i:Int))&&decide ((↑i:Int)<(↑t.nt:Int))) (Br (t.sp (↑i:Int).toNat) (∃(e397:List Int),∃(e396:List (List Int)),∃(e395:List Int),(((⟨#[103,97,116,101]⟩:ByteArray)=bytesOf e397/\5=e396.length/\5=5/\d7 (bI 4 [SV.str (⟨#[115,112,108,105,116]⟩:ByteArray)] (aH [aC (t.ax (↑i:Int).toNat),aC (t.ay (↑i:Int).toNat),aC (t.bx (↑i:Int).toNat),aC (t.sb (↑i:Int).toNat)])) e396)/\eZ e397 e396/\l.length=e395.length/\l.length=e395.length/\tG l=tG e395/\e395.length<=1073741824)/\(∀(l393:List Int),∀(_:kS l393 e395 e397 e396),K Ex.normal (IF t l393 (IntKind.i64.wrap ((↑i:Int)+1))))) (∃(e397:List Int),∃(e396:List (List Int)),∃(e395:List Int),(((⟨#[103,97,116,101]⟩:ByteArray)=bytesOf e397/\5=e396.length/\5=5/\d7 (bI 4 [SV.str (⟨#[112,108,97,105,110]⟩:ByteArray)] (aH [aC (t.ax (↑i:Int).toNat),aC (t.ay (↑i:Int).toNat),aC (t.bx (↑i:Int).toNat),aC (t.sb (↑i:Int).toNat)])) e396)/\eZ e397 e396/\l.length=e395.length/\l.length=e395.length/\tG l=tG e395/\e395.length<=1073741824)/\(∀(l393:List Int),∀(_:kS l393 e395 e397 e396),K Ex.normal (IF t l393 (IntKind.i64.wrap ((↑i:Int)+1)))))) (False)) (K (Ex.exit 4) (IF t l (↑i:Int)))):=by kernel_rfl
theorem aFI(t:Trk)(l:List Int)(i:Nat)(K:KC):aE pnE (bZ pnR 0) pnF TW 0 K (.exit 0) (MK t l i)=
 (∃q_,bO pnE (bZ pnR 0) pnF S3 2 0 K q_ (JK t l 0)):=by kernel_rfl
theorem aF2(t:Trk)(l:List Int)(i:Nat)(K:KC):aE pnE (bZ pnR 0) pnF S3 0 K (.exit 2) (JK t l i)=
 (∃q_,bO pnE (bZ pnR 0) pnF U6 4 0 K q_ (IF t l 0)):=by kernel_rfl
theorem aFV(t:Trk)(l:List Int)(i:Nat)(K:KC):aE pnE (bZ pnR 0) pnF U6 0 K (.exit 4) (IF t l i)=
 (∃(e400:List Int),∃(e399:List (List Int)),∃(e398:List Int),(((⟨#[115,116,97,114,116]⟩:ByteArray)=bytesOf e400/\3=e399.length/\3=3/\d7 (bI 2 [SV.str (bytesOf (aJ (IntKind.i64.wrap t.head)))] (aH [aC t.sx,aC t.sy])) e399)/\eZ e400 e399/\l.length=e398.length/\l.length=e398.length/\tG l=tG e398/\e398.length<=1073741824)/\(∀(l396:List Int),∀(_:kS l396 e398 e400 e399),∃(e394:List Int),∃(e393:List (List Int)),∃(e392:List Int),(((⟨#[108,97,112,115]⟩:ByteArray)=bytesOf e394/\1=e393.length/\1=1/\d7 (aH [aJ t.laps]) e393)/\eZ e394 e393/\l396.length=e392.length/\l396.length=e392.length/\tG l396=tG e392/\e392.length<=1073741824)/\(∀(l390:List Int),∀(_:kS l390 e392 e394 e393),Br (decide (0<l390.length)) ((∀(i:Nat),i<(↑l390.length:Int).toNat->sG (tG l390 i)=true)/\(Br (decide (0<(↑l390.length:Int))&&decide ((↑l390.length:Int)<=(↑l390.length:Int))&&decide ((↑l390.length:Int)<9223372036854775808)) (K (SV.tup [SV.str (bytesOf (lS (↑l390.length:Int).toNat (tG l390))),SV.int .i64 0]) [] []) (False))) (False)))):=by kernel_rfl
theorem aGG(t:Trk)(h:Y8 t)(b0:List Int)(hb:b0.length<=90000000)(i:Nat)(K:KC)(hK: ∀l:List Int,jV l b0 (lnW gW [aC t.sx,aC t.sy,aJ t.head]++lnW pB [aJ t.laps])->K (.tup [.str (bytesOf l),.int .i64 0]) [] []):
  aE pnE (bZ pnR 0) pnF U6 0 K (.exit 4) (IF t b0 i):=by
 have k1:dW [aC t.sx,aC t.sy,aJ t.head]:=aL (fA _) (aL (fA _) (aL (u3 _) dR))
 have k2:dW [aJ t.laps]:=aL (u3 _) dR
 have hw:IntKind.i64.wrap t.head=t.head:=by have:=h.head;rw [gY];omega
 rw [aFV,hw]
 refine ⟨gW,_,b0,⟨⟨rfl,rfl,rfl,aFc⟩,dY (cC rfl) k1 (Nat.succ_pos _) (by simp),rfl,rfl,rfl,by omega⟩,fun l1 g1=> ?_⟩
 have e1:=lN g1 k1
 rw [show gW.length=5 from rfl] at e1
 simp only [List.length_cons,List.length_nil] at e1
 refine ⟨pB,_,l1,⟨⟨rfl,rfl,rfl,fF _⟩,dY (cC rfl) k2 (Nat.succ_pos _) (by simp),rfl,rfl,rfl,by omega⟩,fun l2 g2=> ?_⟩
 have e2:=lN g2 k2
 rw [show pB.length=4 from rfl] at e2
 simp only [List.length_cons,List.length_nil] at e2
 unfold kS at g1 g2
 have e3:0<l2.length:=by rw [g2,List.length_append];exact Nat.lt_of_lt_of_le (dY (cC rfl) k2 (Nat.succ_pos _) (by simp)).pos (Nat.le_add_left _ _)
 refine Br.of (fun _=>⟨fun _ _=>rfl,Br.of (fun _=> ?_) fun c=>absurd c (by simp;omega)⟩) fun c=>absurd e3 (of_decide_eq_false c)
 rw [Int.toNat_natCast,aCs]
 refine hK l2 ?_
 unfold jV
 rw [g2,g1,List.append_assoc]
theorem aGE(t:Trk)(h:Y8 t)(b0:List Int)(hb:b0.length<=80000000)(i:Nat)(K:KC)(hK: ∀l:List Int,jV l b0 (bK (CZ t) 0 t.nt++(lnW gW [aC t.sx,aC t.sy,aJ t.head]++lnW pB [aJ t.laps]))->K (.tup [.str (bytesOf l),.int .i64 0]) [] []):
  aE pnE (bZ pnR 0) pnF S3 0 K (.exit 2) (JK t b0 i):=by
 have hn:=h.nt
 rw [aF2]
 refine ⟨t.nt+1, ?_⟩
 show iter (aF pnE (bZ pnR 0) pnF U6 4) (aE pnE (bZ pnR 0) pnF U6 0 K) (t.nt+1) (IF t b0 ((0:Nat):Int))
 refine uV (fun l i=>IF t l i) gA (fun i=>[aC (t.ax i),aC (t.ay i),aC (t.bx i),aC (t.sb i),gX (t.sp i)]) t.nt b0 (by omega) (cC rfl) (fun i _=>⟨aL (fA _) (aL (fA _) (aL (fA _) (aL (fA _) (aL (RO _) dR)))),by simp⟩) (by omega) (fun i l hi hl X hX=> ?_) fun l hl hle X=> ?_
 ·have hok:dW [aC (t.ax i),aC (t.ay i),aC (t.bx i),aC (t.sb i),gX (t.sp i)]:=aL (fA _) (aL (fA _) (aL (fA _) (aL (fA _) (aL (RO _) dR))))
  rw [aC9,aO hi (by omega),Int.toNat_natCast]
  refine Br.of (fun _=>Br.of (fun _=>Br.of (fun c=> ?_) fun c=> ?_) fun c=>nH hi c) fun c=>nF hi c
  ·rw [c] at hok hX
   exact ⟨gA,[aC (t.ax i),aC (t.ay i),aC (t.bx i),aC (t.sb i),gX true],l,⟨⟨rfl,rfl,rfl,aGo (e:=gX true)⟩,dY (cC rfl) hok (Nat.succ_pos _) (by simp),rfl,rfl,rfl,by omega⟩,fun l' hg=>hX l' hg⟩
  ·rw [c] at hok hX
   exact ⟨gA,[aC (t.ax i),aC (t.ay i),aC (t.bx i),aC (t.sb i),gX false],l,⟨⟨rfl,rfl,rfl,aGo (e:=gX false)⟩,dY (cC rfl) hok (Nat.succ_pos _) (by simp),rfl,rfl,rfl,by omega⟩,fun l' hg=>hX l' hg⟩
 ·rw [aC9]
  refine Br.of (fun c=>mD c) fun _=> ?_
  refine aGG t h l (by omega) t.nt K fun l' hl'=>hK l' ?_
  unfold jV at hl hl'|-
  rw [hl',hl,List.append_assoc];rfl
theorem aGA(t:Trk)(h:Y8 t)(b0:List Int)(hb:b0.length<=70000000)(i:Nat)(K:KC)(hK: ∀l:List Int,jV l b0 (bK (GM t) 0 t.nr++(bK (CZ t) 0 t.nt++(lnW gW [aC t.sx,aC t.sy,aJ t.head]++lnW pB [aJ t.laps])))->K (.tup [.str (bytesOf l),.int .i64 0]) [] []):
  aE pnE (bZ pnR 0) pnF TW 0 K (.exit 0) (MK t b0 i):=by
 have hn:=h.nr
 rw [aFI]
 refine ⟨t.nr+1, ?_⟩
 show iter (aF pnE (bZ pnR 0) pnF S3 2) (aE pnE (bZ pnR 0) pnF S3 0 K) (t.nr+1) (JK t b0 ((0:Nat):Int))
 refine uV (fun l i=>JK t l i) eC (fun i=>dD (t.rx i) (t.ry i) 0 (t.rn i)) t.nr b0 (by omega) (cC rfl) (fun i hi=>⟨m8 _ _ _ _,by have:=h.rn i hi;rw [fJ];omega⟩) (by omega) (fun i l hi hl X hX=> ?_) fun l hl hle X=> ?_
 ·have hrn:=h.rn i hi
  rw [aDf,aO hi (by omega),Int.toNat_natCast]
  refine Br.of (fun _=>Br.of (fun _=> ?_) fun c=>nH hi c) fun c=>nF hi c
  exact ⟨t.rx i,t.ry i,⟨rfl,by omega⟩,eC,_,l,⟨⟨rfl,(fJ _ _ _ _).symm,fF _⟩,dY (cC rfl) (m8 _ _ _ _) (by rw [fJ];omega) (by rw [fJ];omega),rfl,rfl,rfl,by omega⟩,fun l' hg=>hX l' hg⟩
 ·rw [aDf]
  refine Br.of (fun c=>mD c) fun _=> ?_
  refine aGE t h l (by omega) t.nr K fun l' hl'=>hK l' ?_
  unfold jV at hl hl'|-
  rw [hl',hl,List.append_assoc];rfl
def gD(t:Trk):ByteArray:=bif (cD t).1 !=0 then ⟨#[]⟩ else bytesOf (vM t)
theorem aEE(t:Trk)(hs:iJ t)(hi:FZ t)(K:KC)(hK:K (.tup [.str (gD t),.int .i64 (cD t).1]) [] []):
  BD pnR (fun _=>0) n7 4 8 [.agg (aM t)] [] K:=by
 rw [aAO]
 refine ⟨t,⟨rfl,hs⟩,Br.of (fun c=> ?_) fun c=> ?_⟩
 ·unfold gD at hK;rw [c] at hK;exact hK
 have h0:(cD t).1=0:=bne_eq_false_iff_eq.1 c
 have h:=RF h0 hi
 have hn:=h.nl
 refine ⟨t,⟨rfl,h.gd⟩,fun l0 g0=>⟨t.nl+1, ?_⟩⟩
 have hl0:l0.length<=700000:=by unfold jV at g0;rw [g0,List.nil_append];exact yF h.gd
 show iter (aF pnE (bZ pnR 0) pnF TW 0) (aE pnE (bZ pnR 0) pnF TW 0 K) (t.nl+1) (MK t l0 ((0:Nat):Int))
 refine uV (fun l i=>MK t l i) fK (fun i=>[aC (t.lx i),aC (t.ly i)]) t.nl l0 (by omega) (cC rfl) (fun i _=>⟨aL (fA _) (aL (fA _) dR),by simp⟩) (by omega) (fun i l hi hl X hX=> ?_) fun l hl hle X=> ?_
 ·have hok:dW [aC (t.lx i),aC (t.ly i)]:=aL (fA _) (aL (fA _) dR)
  rw [aDk,aO hi (by omega),Int.toNat_natCast]
  refine Br.of (fun _=>Br.of (fun _=> ?_) fun c=>nH hi c) fun c=>nF hi c
  exact ⟨fK,_,l,⟨⟨rfl,rfl,rfl,fF _⟩,dY (cC rfl) hok (Nat.succ_pos _) (by simp),rfl,rfl,rfl,by omega⟩,fun l' hg=>hX l' hg⟩
 ·rw [aDk]
  refine Br.of (fun c=>mD c) fun _=> ?_
  refine aGA t h l (by omega) t.nl K fun l' hl'=> ?_
  unfold gD at hK
  rw [c,h0] at hK
  have:l'=vM t:=by
   unfold jV at g0 hl hl'
   unfold vM
   rw [hl',hl,g0,IZ,List.nil_append]
   simp only [List.append_assoc];rfl
  rw [this];exact hK
def cPr :List SV->List (Option SB)->KC->Prop
 | [.agg cs],[],K=> ∃t:Trk,(cs=aM t/\iJ t)/\K (.tup [.str (gD t),.int .i64 (cD t).1]) [] []
 |_,_,_=>False
theorem aEo(xs:List SV)(σ:List (Option SB)):Sat Tryz.prog 8 xs σ (cPr xs σ):=by
 intro K hK
 unfold cPr at hK
 split at hK
 case h_2=>exact hK.elim
 obtain ⟨t,⟨rfl,hs⟩,hK⟩:=hK
 exact ⟨_,_,_,hK,zQ pnR (fun _=>0) n7 4 (fun p h=>by cases h) fun hok _ K hK=>aEE t hs (L5 hok.1) K (hK _ fun _ h=>h)⟩
end Go.Proofs.YtghnfjfkjhbgdaaGreatDoor
namespace Go.Se
def xK(all:Int)(b:Bk):((Int×Int)×Int)×Bk:=
 let p:=lnV b (ba gW) 3
 let s:=plP (lnB all b (ba gW) 3) p 0
 ((s.1,kF s.2 (rl (p.getD 2 [])) 0 4294967295),iI s.2 (rl (p.getD 2 [])) 0 4294967295)
def L6(all:Int)(t:TL)(b:Bk):TL×Bk:=
 let l:=cY (ba fK) (fL all) 64 ([],b)
 let r:=cY (ba eC) (fI all) 16 ([],l.2)
 let g:=cY (ba gA) (iW all) 16 ([],r.2)
 let s:=xK all g.2
 let n:=IH all (ba pB) 1 100 s.2
 (⟨t.rate,t.cell,t.cols,t.rows,t.corner,t.heights,t.ground,t.kinds,l.1,r.1,g.1,s.1.1,s.1.2,n.1⟩,n.2)
def i4(all:Int)(b:Bk):TL×Bk:=L6 all (iA all b).1 (iA all b).2
def pA(l:List Int):TL×Int×Int:=
 bif G9 (i4 (rF l) (jH l)).2 !=0 then (TL.zero,G9 (i4 (rF l) (jH l)).2,J2 (i4 (rF l) (jH l)).2) else
 bif (cD (i4 (rF l) (jH l)).1.trk).1 !=0 then (TL.zero,(cD (i4 (rF l) (jH l)).1.trk).1,0) else ((i4 (rF l) (jH l)).1,0,0)
def UJ(l:List Int)(t:TL)(e at':Int):Prop:=(t,e,at')=pA l
theorem UR{all:Int}{b:Bk}(h:aK b):aK (xK all b).2:=(aK.take h).num.num.int
theorem UG{all:Int}{b:Bk}(h:aK b):(fI all b).1.length<=64:=by
 unfold fI
 simp only
 cases hc:fV b (ba eC) 2 128 with
 |true=>
  simp only [cond_true,List.length_nil]
  exact Nat.zero_le _
 |false=>
  have:=FM h hc
  simp only [cond_false]
  cases (iD b).length%2==1
  ·simp only [cond_false,AP];omega
  ·exact Nat.zero_le _
theorem K8{α:Type}{w:ByteArray}{one:Bk->α×Bk}{P:α->Prop}(h1: ∀b,aK b->aK (one b).2)(hP: ∀b,aK b->P (one b).1): ∀(n:Nat) (s:List α×Bk),aK s.2->(∀x,x∈s.1->P x)-> ∀x,x∈(cY w one n s).1->P x
 |0,_,_,h=>h
 |n+1,s,hb,h=>by
  unfold cY
  cases fG s.2 w
  ·exact h
  ·refine K8 h1 hP n _ (h1 _ hb) fun x hx=> ?_
   rcases List.mem_append.1 hx with hx|hx
   ·exact h x hx
   ·rw [List.mem_singleton.1 hx];exact hP _ hb
theorem aAX{t:TL}(h1:t.rails.length<=16)(h2: ∀l,l∈t.rails->l.length<=64):iJ t.trk:=by
 refine ⟨by show t.rails.length<=20;omega,fun i hi=> ?_⟩
 have hi:i<t.rails.length:=hi
 show aBi (aY raL [] t.rails i)<=100
 rw [dM hi]
 have:=h2 _ (List.getElem_mem hi)
 show (t.rails[i]).length<=100
 omega
theorem VC(b:Bk)(l:List Int):IntKind.u32.wrap (kF b l 0 4294967295)=kF b l 0 4294967295:=by
 have:0<=kF b l 0 4294967295/\kF b l 0 4294967295<=4294967295:=by
  rcases B2 (b:=b) (l:=l) (lo:=0) (hi:=4294967295) with h|h
  ·rw [h.1];exact ⟨by decide,by decide⟩
  ·exact h
 rw [IntKind.wrap_u32];omega
theorem aAD{l:List Int}(h:TZ (dZ l)):cP (rF l):=⟨by unfold rF;omega,by have:=h.len;unfold rF;omega⟩
end Go.Se
namespace Go.Proofs.YtghnfjfkjhbgdaaGreatDoor
open Go.Se
set_option maxRecDepth 100000
noncomputable def o6 :bT Tryz.prog:=((o5).add 32 (zF ugV (isF iA)) aEX).add 14 cRt OB
theorem aFH(s:ByteArray)(K:KC):run o6 4 11 [.str s] [] K=
 (Br (decide (s.size<=1048576)) (∃(e399:Bk),∃(e398:Int),([SV.ro (jH (aA s)).q.length 2 (qG (jH (aA s)).q),SV.int .i64 (rF (aA s)),SV.int .i64 (jH (aA s)).last,SV.int .i64 (jH (aA s)).err,SV.int .i64 (jH (aA s)).place]=bkC e398 e399/\aK e399/\cP e398)/\(∀(x396:TL),∀(b'395:Bk),∀(_:isF iA e398 e399 x396 b'395),∃(e393:Bk),∃(e392:Int),∃(e391:Nat),(((bkC e398 b'395)=bkC e392 e393/\64=(↑e391:Int)/\34=34)/\aK e393/\cP e392/\e391<=1000)/\(∀(L389:List (Int×Int)),∀(b'388:Bk),∀(_:OV (⟨#[112,111,105,110,116]⟩:ByteArray) (fL e392) e391 e393 L389 b'388),∃(e386:Bk),∃(e385:Int),∃(e384:Nat),(((bkC e392 b'388)=bkC e385 e386/\16=(↑e384:Int)/\36=36)/\aK e386/\cP e385/\e384<=1000)/\(∀(L382:List (List (Int×Int))),∀(b'381:Bk),∀(_:OV (⟨#[114,97,105,108]⟩:ByteArray) (fI e385) e384 e386 L382 b'381),∃(e379:Bk),∃(e378:Int),∃(e377:Nat),(((bkC e385 b'381)=bkC e378 e379/\16=(↑e377:Int)/\38=38)/\aK e379/\cP e378/\e377<=1000)/\(∀(L375:List (Int×Int×Int×Int×Bool)),∀(b'374:Bk),∀(_:OV (⟨#[103,97,116,101]⟩:ByteArray) (iW e378) e377 e379 L375 b'374),∃(e372:Bk),∃(e371:Int),∃(e370:Nat),(((bkC e378 b'374)=bkC e371 e372/\3=(↑e370:Int))/\aK e372/\cP e371/\0<e370/\e370<=1000)/\(∀(p368:List (List Int)),∀(b'367:Bk),∀(_:uP e371 e372 (⟨#[115,116,97,114,116]⟩:ByteArray) e370 p368 b'367),∃(e365:List (List Int)),∃(e364:Bk),∃(e363:Int),((bkC e371 b'367)=bkC e363 e364/\aH p368=aH e365/\2<=e370)/\(∀(x361:Int),∀(y360:Int),∀(b'359:Bk),∀(_:JA e364 e365 x361 y360 b'359),Br (true&&decide (2<(↑e370:Int))) (∃(e356:Bk),∃(e355:Int),((bkC e363 b'359)=bkC e355 e356)/\(∀(v353:Int),∀(b'352:Bk),∀(_:MB e356 (bytesOf (p368.getD (Int.toNat 2) [])) 0 4294967295 v353 b'352),∃(e350:Bk),∃(e349:Int),∃(e348:Nat),(((bkC e355 b'352)=bkC e349 e350/\1=(↑e348:Int))/\aK e350/\cP e349/\0<e348/\e348<=1000)/\(∀(p346:List (List Int)),∀(b'345:Bk),∀(_:uP e349 e350 (⟨#[108,97,112,115]⟩:ByteArray) e348 p346 b'345),Br (true&&decide (0<(↑e348:Int))) (∃(e342:Bk),∃(e341:Int),((bkC e349 b'345)=bkC e341 e342)/\(∀(v339:Int),∀(b'338:Bk),∀(_:MB e342 (bytesOf (p346.getD (Int.toNat 0) [])) 1 100 v339 b'338),∃(e336:Bk),∃(e335:Int),((bkC e341 b'338)=bkC e335 e336)/\(Br (G9 e336 !=0) (K (SV.tup [SV.agg [SV.int .i64 0,SV.int .i64 0,SV.int .i64 0,SV.int .i64 0,SV.int .i64 0,SV.int .i64 0,SV.nils,SV.nils,SV.nils,SV.nils,SV.nils,SV.nils,SV.int .i64 0,SV.int .i64 0,SV.int .u32 0,SV.int .i64 0],SV.int .i64 (G9 e336),SV.int .i64 (J2 e336)]) [] []) (∃(e332:Trk),([SV.int .i64 x396.rate,SV.int .i64 x396.cell,SV.int .i64 x396.cols,SV.int .i64 x396.rows,SV.int .i64 x396.corner.fst,SV.int .i64 x396.corner.snd,SV.ro x396.heights.length 1 (aY eK 0 x396.heights),SV.ro x396.ground.length 1 (aY eK 0 x396.ground),SV.ro x396.kinds.length 3 (aY kiL (0,0,false) x396.kinds),SV.ro L389.length 2 (aY plL (0,0) L389),SV.ro L382.length 1 (aY raL [] L382),SV.ro L375.length 5 (aY gaL (0,0,0,0,false) L375),SV.int .i64 x361,SV.int .i64 y360,SV.int .u32 (IntKind.u32.wrap v353),SV.int .i64 v339]=aM e332/\iJ e332)/\(Br ((cD e332).fst !=0) (K (SV.tup [SV.agg [SV.int .i64 0,SV.int .i64 0,SV.int .i64 0,SV.int .i64 0,SV.int .i64 0,SV.int .i64 0,SV.nils,SV.nils,SV.nils,SV.nils,SV.nils,SV.nils,SV.int .i64 0,SV.int .i64 0,SV.int .u32 0,SV.int .i64 0],SV.int .i64 (cD e332).fst,SV.int .i64 0]) [] []) (K (SV.tup [SV.agg [SV.int .i64 x396.rate,SV.int .i64 x396.cell,SV.int .i64 x396.cols,SV.int .i64 x396.rows,SV.int .i64 x396.corner.fst,SV.int .i64 x396.corner.snd,SV.ro x396.heights.length 1 (aY eK 0 x396.heights),SV.ro x396.ground.length 1 (aY eK 0 x396.ground),SV.ro x396.kinds.length 3 (aY kiL (0,0,false) x396.kinds),SV.ro L389.length 2 (aY plL (0,0) L389),SV.ro L382.length 1 (aY raL [] L382),SV.ro L375.length 5 (aY gaL (0,0,0,0,false) L375),SV.int .i64 x361,SV.int .i64 y360,SV.int .u32 (IntKind.u32.wrap v353),SV.int .i64 v339],SV.int .i64 0,SV.int .i64 0]) [] [])))))) (False)))) (False)))))))) (False)):=by kernel_rfl
abbrev zC :List SV:=[.int .i64 0,.int .i64 0,.int .i64 0,.int .i64 0,.int .i64 0,.int .i64 0,.nils,.nils,.nils,.nils,.nils,.nils,.int .i64 0,.int .i64 0,.int .u32 0,.int .i64 0]
theorem ZD(t:TL):[SV.int .i64 t.rate,SV.int .i64 t.cell,SV.int .i64 t.cols,SV.int .i64 t.rows,SV.int .i64 t.corner.1,SV.int .i64 t.corner.2,SV.ro t.heights.length 1 (aY eK 0 t.heights),SV.ro t.ground.length 1 (aY eK 0 t.ground),SV.ro t.kinds.length 3 (aY kiL (0,0,false) t.kinds),SV.ro t.line.length 2 (aY plL (0,0) t.line),SV.ro t.rails.length 1 (aY raL [] t.rails),SV.ro t.gates.length 5 (aY gaL (0,0,0,0,false) t.gates),SV.int .i64 t.start.1,SV.int .i64 t.start.2,SV.int .u32 t.head,SV.int .i64 t.laps]=aM t.trk:=
 k9 t.shape _ _ _ _ _ _ _ _ _ _ _ _ _ _ _ _
theorem aDC (s:ByteArray) (hs:s.size<=1048576) (K:KC)
  (hK:(∀e a,pA (aA s)=(TL.zero,e,a)->K (.tup [.agg zC,.int .i64 e,.int .i64 a]) [] [])/\ ∀t,pA (aA s)=(t,0,0)->K (.tup [.agg (aM t.trk),.int .i64 0,.int .i64 0]) [] []):
  run o6 4 11 [.str s] [] K:=by
 have hL:=AD hs
 have hb:=UX hL
 have ha:=aAD hL
 rw [aFH]
 refine Br.of (fun _=>⟨jH (aA s),rF (aA s),⟨rfl,hb,ha⟩,fun x b0 h0=> ?_⟩) fun c=>absurd hs (of_decide_eq_false c)
 have hk0:aK b0:=by rw [(mQ h0).2];exact PP hb
 have hrest:i4 (rF (aA s)) (jH (aA s))=L6 (rF (aA s)) x b0:=by unfold i4;rw [(mQ h0).1,(mQ h0).2]
 unfold pA at hK
 rw [hrest] at hK
 clear hrest h0
 generalize rF (aA s)=all at*
 refine ⟨b0,all,64,⟨⟨rfl,rfl,rfl⟩,hk0,ha,by decide⟩,fun L1 b1 h1=> ?_⟩
 have e1:cY (ba fK) (fL all) 64 ([],b0)=(L1,b1):=Eq.symm h1
 have k1:aK b1:=by have:=rS (w:=ba fK) (fun b h=>FK (all:=all) (b:=b) h) 64 ([],b0) hk0;rw [e1] at this;exact this
 refine ⟨b1,all,16,⟨⟨rfl,rfl,rfl⟩,k1,ha,by decide⟩,fun L2 b2 h2=> ?_⟩
 have e2:cY (ba eC) (fI all) 16 ([],b1)=(L2,b2):=Eq.symm h2
 have k2:aK b2:=by have:=rS (w:=ba eC) (fun b h=>CG (all:=all) (b:=b) h) 16 ([],b1) k1;rw [e2] at this;exact this
 have l2:L2.length<=16:=by have:=EQ (w:=ba eC) (one:=fI all) 16 ([],b1);rw [e2] at this;simpa using this
 have m2: ∀l,l∈L2->l.length<=64:=by have:=K8 (w:=ba eC) (one:=fI all) (P:=fun l=>l.length<=64) (fun b h=>CG h) (fun b h=>UG h) 16 ([],b1) k1 (fun x hx=>by cases hx);rw [e2] at this;exact this
 refine ⟨b2,all,16,⟨⟨rfl,rfl,rfl⟩,k2,ha,by decide⟩,fun L3 b3 h3=> ?_⟩
 have e3:cY (ba gA) (iW all) 16 ([],b2)=(L3,b3):=Eq.symm h3
 have k3:aK b3:=by have:=rS (w:=ba gA) (fun b h=>KQ (all:=all) (b:=b) h) 16 ([],b2) k2;rw [e3] at this;exact this
 refine ⟨b3,all,3,⟨⟨rfl,rfl⟩,k3,ha,by decide,by decide⟩,fun p4 b4 h4=>⟨p4,b4,all,⟨rfl,rfl,by decide⟩,fun x4 y4 b5 h5=>⟨b5,all,rfl,fun v5 b6 h6=> ?_⟩⟩⟩
 obtain ⟨⟨rfl,_⟩,rfl⟩:=h4
 obtain ⟨hxy,rfl⟩:=h5
 obtain ⟨hv5,hb6⟩:=h6
 have e4:xK all b3=(((x4,y4),v5),b6):=by rw [hxy,hv5,hb6];rfl
 have k4:aK b6:=by have:=UR (all:=all) k3;rw [e4] at this;exact this
 have w4:IntKind.u32.wrap v5=v5:=by rw [hv5];exact VC _ _
 clear hxy hv5 hb6
 refine ⟨b6,all,1,⟨⟨rfl,rfl⟩,k4,ha,by decide,by decide⟩,fun p6 b7 h7=>⟨b7,all,rfl,fun v6 b8 h8=>⟨b8,all,rfl, ?_⟩⟩⟩
 obtain ⟨⟨rfl,_⟩,rfl⟩:=h7
 obtain ⟨hv6,hb8⟩:=h8
 have e5:IH all (ba pB) 1 100 b6=(v6,b8):=by rw [hv6,hb8];rfl
 clear hv6 hb8
 have hr:L6 all x b0=(⟨x.rate,x.cell,x.cols,x.rows,x.corner,x.heights,x.ground,x.kinds,L1,L2,L3,(x4,y4),v5,v6⟩,b8):=by
  unfold L6
  rw [e1];simp only
  rw [e2];simp only
  rw [e3];simp only
  rw [e4];simp only
  rw [e5]
 rw [hr] at hK
 simp only at hK
 rw [w4]
 generalize ht:(⟨x.rate,x.cell,x.cols,x.rows,x.corner,x.heights,x.ground,x.kinds,L1,L2,L3,(x4,y4),v5,v6⟩:TL)=t at hK
 have hsm:iJ t.trk:=aAX (by rw [<- ht];exact l2) (by rw [<- ht];exact m2)
 have hc:[SV.int .i64 x.rate,SV.int .i64 x.cell,SV.int .i64 x.cols,SV.int .i64 x.rows,SV.int .i64 x.corner.fst,SV.int .i64 x.corner.snd,SV.ro x.heights.length 1 (aY eK 0 x.heights),SV.ro x.ground.length 1 (aY eK 0 x.ground),SV.ro x.kinds.length 3 (aY kiL (0,0,false) x.kinds),SV.ro L1.length 2 (aY plL (0,0) L1),SV.ro L2.length 1 (aY raL [] L2),SV.ro L3.length 5 (aY gaL (0,0,0,0,false) L3),SV.int .i64 x4,SV.int .i64 y4,SV.int .u32 v5,SV.int .i64 v6]=aM t.trk:=by
  rw [<- ht]
  exact ZD ⟨x.rate,x.cell,x.cols,x.rows,x.corner,x.heights,x.ground,x.kinds,L1,L2,L3,(x4,y4),v5,v6⟩
 rw [hc]
 refine Br.of (fun c=> ?_) fun c=>⟨t.trk,⟨rfl,hsm⟩,Br.of (fun c2=> ?_) fun c2=> ?_⟩
 ·rw [c] at hK;exact hK.1 _ _ rfl
 ·rw [c,c2] at hK;exact hK.1 _ _ rfl
 ·rw [c,c2] at hK;exact hK.2 _ rfl
theorem aDx{ρ:aG}{T:Nat->Prop}{w:World}{v:Value}(hv:rel ρ T w (.agg zC) v):rel ρ T w (.agg (aM TL.zero.trk)) v:=by
 obtain ⟨a,rfl,v1,l1,z1,q1,v2,l2,z2,q2,v3,l3,z3,q3,v4,l4,z4,q4,v5,l5,z5,q5,v6,l6,z6,q6,v7,l7,z7,q7,v8,l8,z8,q8,v9,l9,z9,q9,v10,l10,z10,q10,v11,l11,z11,q11,v12,l12,z12,q12,q13⟩:=hv
 exact ⟨a,rfl,v1,l1,z1,q1,v2,l2,z2,q2,v3,l3,z3,q3,v4,l4,z4,q4,v5,l5,z5,q5,v6,l6,z6,q6,v7,l7,z7,fS q7,v8,l8,z8,fS q8,v9,l9,z9,fS q9,v10,l10,z10,fS q10,v11,l11,z11,fS q11,v12,l12,z12,fS q12,q13⟩
theorem aD4(s:ByteArray)(hs:s.size<=1048576):aD Tryz.prog 11 [.str s] [] (.tup [.agg (aM (pA (aA s)).1.trk),.int .i64 (pA (aA s)).2.1,.int .i64 (pA (aA s)).2.2]) [] []:=by
 obtain ⟨v,σ',d,hv,hc⟩:=bX (env:=tab.env o6 (fun _=>0) (fun _=>false)) ⟨tab.htt,o6.ok⟩ tab.mixed (fun n=>bC n []) tab.hft 4 _ _ _
  (fun v σ' d=>((∃e a,pA (aA s)=(TL.zero,e,a)/\v= .tup [.agg zC,.int .i64 e,.int .i64 a])\/ ∃t,pA (aA s)=(t,0,0)/\v= .tup [.agg (aM t.trk),.int .i64 0,.int .i64 0])/\σ'=[]/\d=[])
  (aDC s hs _ ⟨fun e a h=>⟨.inl ⟨e,a,h,rfl⟩,rfl,rfl⟩,fun t h=>⟨.inr ⟨t,h,rfl⟩,rfl,rfl⟩⟩)
 obtain ⟨hv,rfl,rfl⟩:=hv
 rcases hv with ⟨e,a,h,rfl⟩|⟨t,h,rfl⟩
 ·rw [h]
  exact pP (v:= .tup [.agg zC,.int .i64 e,.int .i64 a]) (fun ρ T w z ⟨x,e1,v1,l1,e2,q1,q2⟩=>⟨x,e1,v1,l1,e2,aDx q1,q2⟩) hc
 ·rw [h];exact hc
def cPa :List SV->List (Option SB)->KC->Prop
 | [.str s],[],K=>s.size<=1048576/\ ∀t e a,UJ (aA s) t e a->K (.tup [.agg (aM t.trk),.int .i64 e,.int .i64 a]) [] []
 |_,_,_=>False
theorem aBB(xs:List SV)(σ:List (Option SB)):Sat Tryz.prog 11 xs σ (cPa xs σ):=by
 intro K hK
 unfold cPa at hK
 split at hK
 case h_2=>exact hK.elim
 exact ⟨_,_,_,hK.2 _ _ _ rfl,aD4 _ hK.1⟩
noncomputable def o7 :bT Tryz.prog:=((o6).add 11 cPa aBB).add 8 cPr aEo
end Go.Proofs.YtghnfjfkjhbgdaaGreatDoor
namespace Go.Proofs.YtghnfjfkjhbgdaaGreatDoor
open Go.Se
set_option maxRecDepth 100000
end Go.Proofs.YtghnfjfkjhbgdaaGreatDoor
namespace Go.Proofs.YtghnfjfkjhbgdaaGreatDoor
open Go.Se
set_option maxRecDepth 100000
end Go.Proofs.YtghnfjfkjhbgdaaGreatDoor
namespace Go.Proofs.YtghnfjfkjhbgdaaGreatDoor
open Go.Se
set_option maxRecDepth 100000
end Go.Proofs.YtghnfjfkjhbgdaaGreatDoor
namespace Go.Proofs.YtghnfjfkjhbgdaaGreatDoor
open Go.Se
set_option maxRecDepth 100000
def A1(t:Trk):Bool:=decide ((t.nh:Int)<=1200)&&(decide ((t.ng:Int)<=1000)&&decide ((t.nk:Int)<=20))
theorem WQ(t:Trk)(K:KC):run q5 2 15 [.agg (aM t)] [] K=
 (Br (decide ((↑t.nh:Int)<=1200)) (Br (decide ((↑t.ng:Int)<=1000)) (K (SV.bool (decide ((↑t.nk:Int)<=20))) [] []) (K (SV.bool false) [] [])) (K (SV.bool false) [] [])):=by kernel_rfl
theorem WJ(t:Trk):aD Tryz.prog 15 [.agg (aM t)] [] (.bool (A1 t)) [] []:=
 aV q5 2 fun _ _ K hK=>by
  rw [WQ];simp only [vX];refine XR hK ?_;unfold A1
  cases decide ((t.nh:Int)<=1200)<;>cases decide ((t.ng:Int)<=1000)<;>rfl
def ML :List SV->List (Option SB)->KC->Prop
 | [.agg [.int .i64 a0,.int .i64 a1,.int .i64 a2,.int .i64 a3,.int .i64 a4,.int .i64 a5,.ro nh 1 h,.ro ng 1 g,.ro nk 3 kg,.ro nl 2 l,.ro nr 1 rl,.ro nt 5 gt,.int .i64 sx,.int .i64 sy,.int .u32 hd,.int .i64 lp]],[],K=>kE h g kg l rl gt/\K (.bool (A1 (mC a0 a1 a2 a3 a4 a5 nh h ng g nk kg nl l nr rl nt gt sx sy hd lp))) [] []
 |_,_,_=>False
theorem S7(xs:List SV)(σ:List (Option SB)):Sat Tryz.prog 15 xs σ (ML xs σ):=by
 intro K hK
 unfold ML at hK
 split at hK
 ·refine ⟨_,_,_,hK.2, ?_⟩
  rw [k9 hK.1];exact WJ _
 ·exact hK.elim
noncomputable def u0 :bT Tryz.prog:=(q5).add 15 ML S7
def fwR :List (Nat×eR):=[(0,⟨[1,2,3],[0],[1,2,3],1,[]⟩)]
def fwS(t:Trk)(i:Int):St:=⟨[(1,.ptr 0 0),(2,.bool false),(3,.int .i64 i)],[(0,some (.cells 34 (aM t)))],1,[1,2,3],39⟩
noncomputable abbrev fwE :Env:=fW fwR (fun _=>0) u0 1
noncomputable abbrev fwF :Func:=Tryz.f7
theorem WE(t:Trk)(K:KC):eA fwR (fun _=>0) u0 2 7 [.agg (aM t)] [] K=
 ((kE (aP t.h) (aP t.g) (eY t) (bS t.lx t.ly) (cH t) (eV t))/\(Br (!A1 t) (K (SV.bool false) [] []) (Br (decide ((↑t.nl:Int)>100)) (K (SV.bool false) [] []) (Br (decide ((↑t.nr:Int)>20)) (K (SV.bool false) [] []) (Br (decide ((↑t.nt:Int)>20)) (K (SV.bool false) [] []) (∃q_,bO fwE (aB fwR 0) fwF [1,1,0,1,0] 0 0 K q_ {tmps:=[(1,SV.ptr 0 0),(2,SV.bool false),(3,SV.int .i64 0)],store:=[(0,some (SB.cells 34 (aM t)))],nxt:=1,dirty:=[1,2,3],nt:=39})))))):=by kernel_rfl
theorem IR(t:Trk)(i:Nat)(K:Ex->St->Prop):aF fwE (aB fwR 0) fwF [1,1,0,1,0] 0 K (fwS t i)=
 (Br (decide ((↑i:Int)<(↑t.nr:Int))) (Br (decide (0<=(↑i:Int))&&decide ((↑i:Int)<(↑t.nr:Int))) (Br (decide ((↑(t.rn (↑i:Int).toNat):Int)>100)) (K Ex.ret {tmps:=[(1,SV.ptr 0 0),(2,SV.bool false),(3,SV.int .i64 (↑i:Int))],store:=[(0,some (SB.cells 34 (aM t)))],nxt:=1,dirty:=[1,2,3],nt:=39}) (K Ex.normal {tmps:=[(1,SV.ptr 0 0),(2,SV.bool false),(3,SV.int .i64 (IntKind.i64.wrap ((↑i:Int)+1)))],store:=[(0,some (SB.cells 34 (aM t)))],nxt:=1,dirty:=[1,2,3],nt:=39})) (False)) (K (Ex.exit 0) {tmps:=[(1,SV.ptr 0 0),(2,SV.bool false),(3,SV.int .i64 (↑i:Int))],store:=[(0,some (SB.cells 34 (aM t)))],nxt:=1,dirty:=[1,2,3],nt:=39})):=by kernel_rfl
theorem aEp(t:Trk)(i:Int)(K:KC):aE fwE (aB fwR 0) fwF [1,1,0,1,0] 0 K .ret (fwS t i)=
 (K (SV.bool false) [] []):=by kernel_rfl
theorem aAl(t:Trk)(i:Int)(K:KC):aE fwE (aB fwR 0) fwF [1,1,0,1,0] 0 K (.exit 0) (fwS t i)=
 (K (SV.bool true) [] []):=by kernel_rfl
def U0(t:Trk):Bool:=A1 t&&(!decide ((t.nl:Int)>100)&&(!decide ((t.nr:Int)>20)&&(!decide ((t.nt:Int)>20)&& !iE (fun i=>decide ((t.rn i:Int)>100)) t.nr)))
theorem aDK(t:Trk)(hn:t.nr<9223372036854775808)(K:KC)(hK:K (.bool (U0 t)) [] []):eA fwR (fun _=>0) u0 2 7 [.agg (aM t)] [] K:=by
 rw [WE]
 unfold U0 at hK
 refine ⟨fT t,Br.of (fun c=> ?_) fun c=> ?_⟩
 ·rw [Bool.not_eq_true'] at c;rw [c] at hK;exact hK
 rw [Bool.not_eq_false'] at c;rw [c] at hK
 refine Br.of (fun c2=> ?_) fun c2=>Br.of (fun c3=> ?_) fun c3=>Br.of (fun c4=> ?_) fun c4=> ?_
 ·rw [c2] at hK;exact hK
 ·rw [c2,c3] at hK;exact hK
 ·rw [c2,c3,c4] at hK;exact hK
 rw [c2,c3,c4] at hK
 simp only [Bool.not_false,Bool.true_and] at hK
 refine SN (fun i:Nat=>fwS t i) t.nr (fun i=>decide ((t.rn i:Int)>100)) (fun i=>aE fwE (aB fwR 0) fwF [1,1,0,1,0] 0 K .ret (fwS t i)) (aE fwE (aB fwR 0) fwF [1,1,0,1,0] 0 K (.exit 0) (fwS t t.nr)) (fun i hi X h1 h2=> ?_) (fun X h=> ?_) (fun i hi h _=> ?_) (fun h=> ?_)
 ·rw [IR,aO hi hn]
  simp only [Int.toNat_natCast]
  exact Br.of (fun _=>Br.of (fun _=>Br.of (fun c=>h1 c) fun c=>h2 c) fun c=>nH hi c) fun c=>nF hi c
 ·rw [IR]
  exact Br.of (fun c=>mD c) fun _=>h
 ·show aE _ _ _ _ _ _ _ _
  rw [aEp]
  rw [show iE (fun i=>decide ((t.rn i:Int)>100)) t.nr=true from sA.2 ⟨i,hi,h⟩] at hK
  exact hK
 ·rw [aAl]
  rw [show iE (fun i=>decide ((t.rn i:Int)>100)) t.nr=false from kT.2 h] at hK
  exact hK
theorem VG{t:Trk}(h:U0 t=true):iJ t:=by
 unfold U0 at h
 simp only [Bool.and_eq_true,Bool.not_eq_true',decide_eq_false_iff_not] at h
 obtain ⟨_,_,h1,_,h2⟩:=h
 refine ⟨by omega,fun i hi=> ?_⟩
 have:=of_decide_eq_false (kT.1 h2 i hi)
 omega
def N3 :List SV->List (Option SB)->KC->Prop
 | [.agg [.int .i64 a0,.int .i64 a1,.int .i64 a2,.int .i64 a3,.int .i64 a4,.int .i64 a5,.ro nh 1 h,.ro ng 1 g,.ro nk 3 kg,.ro nl 2 l,.ro nr 1 rl,.ro nt 5 gt,.int .i64 sx,.int .i64 sy,.int .u32 hd,.int .i64 lp]],[],K=>kE h g kg l rl gt/\K (.bool (U0 (mC a0 a1 a2 a3 a4 a5 nh h ng g nk kg nl l nr rl nt gt sx sy hd lp))) [] []
 |_,_,_=>False
theorem aB6(xs:List SV)(σ:List (Option SB)):Sat Tryz.prog 7 xs σ (N3 xs σ):=by
 refine oR (fun K hK=> ?_) fun hx _ K hK=> ?_<;>unfold N3 at hK<;>split at hK
 ·exact ⟨_,_,_,hK.2⟩
 ·exact hK.elim
 ·obtain ⟨⟨_,_,_,_,_,_,_,_,_,_,hr,_⟩,_⟩:=hx
  rw [k9 hK.1]
  exact bX (env:=tab.env u0 (fun _=>0) (fun _=>false)) ⟨tab.htt,u0.ok⟩ tab.mixed (fun n=>bC n fwR) tab.hft 2 _ _ _ K (aDK _ hr.1 K hK.2)
 ·exact hK.elim
def aGB(V:Val):Trk where
 rate:=(V.sub 0).int []
 cell:=(V.sub 1).int []
 cols:=(V.sub 2).int []
 rows:=(V.sub 3).int []
 cx:=((V.sub 4).sub 0).int []
 cy:=((V.sub 4).sub 1).int []
 nh:=(V.sub 5).len []
 h:=fun i=>((V.sub 5).sub i).int []
 ng:=(V.sub 6).len []
 g:=fun i=>((V.sub 6).sub i).int []
 nk:=(V.sub 7).len []
 kg:=fun i=>(((V.sub 7).sub i).sub 0).int []
 kd:=fun i=>(((V.sub 7).sub i).sub 1).int []
 ko:=fun i=>(((V.sub 7).sub i).sub 2).bool []
 nl:=(V.sub 8).len []
 lx:=fun i=>(((V.sub 8).sub i).sub 0).int []
 ly:=fun i=>(((V.sub 8).sub i).sub 1).int []
 nr:=(V.sub 9).len []
 rn:=fun i=>((V.sub 9).sub i).len []
 rx:=fun i k=>((((V.sub 9).sub i).sub k).sub 0).int []
 ry:=fun i k=>((((V.sub 9).sub i).sub k).sub 1).int []
 nt:=(V.sub 10).len []
 ax:=fun i=>((((V.sub 10).sub i).sub 0).sub 0).int []
 ay:=fun i=>((((V.sub 10).sub i).sub 0).sub 1).int []
 bx:=fun i=>((((V.sub 10).sub i).sub 1).sub 0).int []
 sb:=fun i=>((((V.sub 10).sub i).sub 1).sub 1).int []
 sp:=fun i=>(((V.sub 10).sub i).sub 2).bool []
 sx:=((V.sub 11).sub 0).int []
 sy:=((V.sub 11).sub 1).int []
 head:=(V.sub 12).int []
 laps:=(V.sub 13).int []
end Go.Proofs.YtghnfjfkjhbgdaaGreatDoor
namespace Go.Se
structure Rs where
 pos:Int
 last:Int
 err:Int
 place:Int
def aF9 :List Int->Int
 | []=>0
 |b::r=>b+256*aF9 r
def aFX(B:List Int)(n:Nat)(s:Rs):Option (List Int)×Rs:=
 bif s.err !=0 then (none,s) else bif decide ((n:Int)>(B.length:Int) - s.pos) then (none,⟨s.pos,s.last,20,B.length⟩) else (some ((B.drop s.pos.toNat).take n),⟨s.pos+n,s.pos,s.err,s.place⟩)
def GT(B:List Int)(s:Rs):Int×Rs:=match aFX B 8 s with
 |(some w,s)=>(IntKind.i64.wrap (aF9 w),s)
 |(none,s)=>(0,s)
def aFM(B:List Int)(s:Rs):Prop:=0<=s.pos/\s.pos<=(B.length:Int)
structure aGH {α:Type} (rd:List Int->Rs->α×Rs):Prop where
 ok: ∀B s,aFM B s->aFM B (rd B s).2
 stuck: ∀B s,s.err≠0->(rd B s).2=s
section
variable {lo hi:Int} {m B w:List Int} {s s':Rs}
end
end Go.Se
namespace Go.Se
variable {P:Program}
end Go.Se
namespace Go.Se
theorem aAz{b:Bool}(h:b=true):(!b)=false:=by rw [h];rfl
def uN :List SV->List (Option SB)->KC->Prop
 | [.agg [.int .i64 a0,.int .i64 a1,.int .i64 a2,.int .i64 a3,.int .i64 a4,.int .i64 a5,.ro anh 1 ah,.ro ang 1 ag,.ro ank 3 akg,.ro anl 2 al,.ro anr 1 arl,.ro ant 5 agt,.int .i64 asx,.int .i64 asy,.int .u32 ahd,.int .i64 alp],.agg [.int .i64 b0,.int .i64 b1,.int .i64 b2,.int .i64 b3,.int .i64 b4,.int .i64 b5,.ro bnh 1 bh,.ro bng 1 bg,.ro bnk 3 bkg,.ro bnl 2 bl,.ro bnr 1 brl,.ro bnt 5 bgt,.int .i64 bsx,.int .i64 bsy,.int .u32 bhd,.int .i64 blp]],[],K=>kE ah ag akg al arl agt/\kE bh bg bkg bl brl bgt/\oZ (mC a0 a1 a2 a3 a4 a5 anh ah ang ag ank akg anl al anr arl ant agt asx asy ahd alp) (mC b0 b1 b2 b3 b4 b5 bnh bh bng bg bnk bkg bnl bl bnr brl bnt bgt bsx bsy bhd blp)/\K (.bool true) [] []
 |_,_,_=>False
theorem AA{P:Program}{k:FuncId}(h: ∀t u:Trk,oZ t u->aD P k [.agg (aM t),.agg (aM u)] [] (.bool true) [] [])(xs:List SV)(σ:List (Option SB)):Sat P k xs σ (uN xs σ):=by
 intro K hK
 unfold uN at hK
 split at hK
 ·obtain ⟨h1,h2,h3,hK⟩:=hK
  refine ⟨_,_,_,hK, ?_⟩
  rw [k9 h1,k9 h2]
  exact h _ _ h3
 ·exact hK.elim
theorem CC{t:Trk}(h:okL (aM t)):t.nh<9223372036854775808/\t.ng<9223372036854775808/\t.nk<9223372036854775808/\t.nl<9223372036854775808/\t.nr<9223372036854775808/\t.nt<9223372036854775808:=by
 obtain ⟨_,_,_,_,_,_,h1,h2,h3,h4,h5,h6,_⟩:=h
 exact ⟨h1.1,h2.1,h3.1,h4.1,h5.1,h6.1⟩
end Go.Se
namespace Go.Proofs.YtghnfjfkjhbgdaaGreatDoor
open Go.Se
set_option maxRecDepth 100000
def svR :List (Nat×eR):=[(0,⟨[0,1,4,5],[],[],0,[]⟩)]
def svS(n m:Nat)(x y x' y':Nat->Int)(i:Int):St:=⟨[(0,.ro n 2 (bS x y)),(1,.ro m 2 (bS x' y')),(4,.bool false),(5,.int .i64 i)],[],0,[],26⟩
noncomputable abbrev svE :Env:=fW svR (fun _=>0) o7 1
noncomputable abbrev svF :Func:=Tryz.f54
abbrev svP :List Nat:=[1,1,0,1,0]
theorem YX(n m:Nat)(x y x' y':Nat->Int)(K:KC):eA svR (fun _=>0) o7 2 54 [.ro n 2 (bS x y),.ro m 2 (bS x' y')] [] K=
 (Br ((↑n:Int) !=(↑m:Int)) (K (SV.bool false) [] []) (∃q_,bO svE (aB svR 0) svF svP 0 0 K q_ {tmps:=[(0,SV.ro n 2 (bS x y)),(1,SV.ro m 2 (bS x' y')),(4,SV.bool false),(5,SV.int .i64 0)],store:=[],nxt:=0,dirty:=[],nt:=26})):=by kernel_rfl
theorem LQ(n m:Nat)(x y x' y':Nat->Int)(i:Nat)(K:Ex->St->Prop):aF svE (aB svR 0) svF svP 0 K (svS n m x y x' y' i)=
 (Br (decide ((↑i:Int)<(↑n:Int))) (Br (decide (0<=(↑i:Int))&&decide ((↑i:Int)<(↑n:Int))) (Br (decide (0<=(↑i:Int))&&decide ((↑i:Int)<(↑m:Int))) (Br (!(x (↑i:Int).toNat==x' (↑i:Int).toNat&&y (↑i:Int).toNat==y' (↑i:Int).toNat)) (K Ex.ret {tmps:=[(0,SV.ro n 2 (bS x y)),(1,SV.ro m 2 (bS x' y')),(4,SV.bool false),(5,SV.int .i64 (↑i:Int))],store:=[],nxt:=0,dirty:=[],nt:=26}) (K Ex.normal {tmps:=[(0,SV.ro n 2 (bS x y)),(1,SV.ro m 2 (bS x' y')),(4,SV.bool false),(5,SV.int .i64 (IntKind.i64.wrap ((↑i:Int)+1)))],store:=[],nxt:=0,dirty:=[],nt:=26})) (False)) (False)) (K (Ex.exit 0) {tmps:=[(0,SV.ro n 2 (bS x y)),(1,SV.ro m 2 (bS x' y')),(4,SV.bool false),(5,SV.int .i64 (↑i:Int))],store:=[],nxt:=0,dirty:=[],nt:=26})):=by kernel_rfl
theorem X7(n m:Nat)(x y x' y':Nat->Int)(i:Nat)(K:KC):aE svE (aB svR 0) svF svP 0 K (.exit 0) (svS n m x y x' y' i)=
 (K (SV.bool true) [] []):=by kernel_rfl
def gvR :List (Nat×eR):=[(0,⟨[2,3,4,5],[0,1],[0,1],2,[]⟩),(2,⟨[2,3,4,6],[0,1],[0,1],2,[]⟩),(4,⟨[2,3,4,7],[0,1],[0,1],2,[]⟩)]
def gvS(nt:Nat)(t u:Trk)(v:Nat)(i:Int):St:=⟨[(2,.ptr 0 0),(3,.ptr 1 0),(4,.bool false),(v,.int .i64 i)],[(0,some (.cells 34 (aM t))),(1,some (.cells 34 (aM u)))],2,[0,1],nt⟩
noncomputable abbrev gvE :Env:=fW gvR (fun _=>0) o7 1
noncomputable abbrev gvF :Func:=Tryz.f53
abbrev aCw :List Nat:=[1,1,0,1,0]
abbrev aCZ :List Nat:=[1,1,1,0,1,0]
abbrev aCz :List Nat:=[1,1,1,1,0,1,0]
theorem ZV(t u:Trk)(K:KC):eA gvR (fun _=>0) o7 2 53 [.agg (aM t),.agg (aM u)] [] K=
 (Br (t.rate !=u.rate) (K (SV.bool false) [] []) (Br (t.cell !=u.cell) (K (SV.bool false) [] []) (Br (t.cols !=u.cols) (K (SV.bool false) [] []) (Br (t.rows !=u.rows) (K (SV.bool false) [] []) (Br (!(t.cx==u.cx&&t.cy==u.cy)) (K (SV.bool false) [] []) (Br ((↑t.nh:Int) !=(↑u.nh:Int)) (K (SV.bool false) [] []) (Br ((↑t.ng:Int) !=(↑u.ng:Int)) (K (SV.bool false) [] []) (Br ((↑t.nk:Int) !=(↑u.nk:Int)) (K (SV.bool false) [] []) (∃q_,bO gvE (aB gvR 0) gvF aCw 0 0 K q_ {tmps:=[(2,SV.ptr 0 0),(3,SV.ptr 1 0),(4,SV.bool false),(5,SV.int .i64 0)],store:=[(0,some (SB.cells 34 (aM t))),(1,some (SB.cells 34 (aM u)))],nxt:=2,dirty:=[0,1],nt:=122}))))))))):=by kernel_rfl
theorem aDb(t u:Trk)(i:Nat)(K:Ex->St->Prop):aF gvE (aB gvR 0) gvF aCw 0 K (gvS 122 t u 5 i)=
 (Br (decide ((↑i:Int)<(↑t.nh:Int))) (Br (decide (0<=(↑i:Int))&&decide ((↑i:Int)<(↑t.nh:Int))) (Br (decide (0<=(↑i:Int))&&decide ((↑i:Int)<(↑u.nh:Int))) (Br (t.h (↑i:Int).toNat !=u.h (↑i:Int).toNat) (K Ex.ret {tmps:=[(2,SV.ptr 0 0),(3,SV.ptr 1 0),(4,SV.bool false),(5,SV.int .i64 (↑i:Int))],store:=[(0,some (SB.cells 34 (aM t))),(1,some (SB.cells 34 (aM u)))],nxt:=2,dirty:=[0,1],nt:=122}) (K Ex.normal {tmps:=[(2,SV.ptr 0 0),(3,SV.ptr 1 0),(4,SV.bool false),(5,SV.int .i64 (IntKind.i64.wrap ((↑i:Int)+1)))],store:=[(0,some (SB.cells 34 (aM t))),(1,some (SB.cells 34 (aM u)))],nxt:=2,dirty:=[0,1],nt:=122})) (False)) (False)) (K (Ex.exit 0) {tmps:=[(2,SV.ptr 0 0),(3,SV.ptr 1 0),(4,SV.bool false),(5,SV.int .i64 (↑i:Int))],store:=[(0,some (SB.cells 34 (aM t))),(1,some (SB.cells 34 (aM u)))],nxt:=2,dirty:=[0,1],nt:=122})):=by kernel_rfl
theorem aDa(t u:Trk)(i:Nat)(K:Ex->St->Prop):aF gvE (aB gvR 0) gvF aCZ 2 K (gvS 122 t u 6 i)=
 (Br (decide ((↑i:Int)<(↑t.ng:Int))) (Br (decide (0<=(↑i:Int))&&decide ((↑i:Int)<(↑t.ng:Int))) (Br (decide (0<=(↑i:Int))&&decide ((↑i:Int)<(↑u.ng:Int))) (Br (t.g (↑i:Int).toNat !=u.g (↑i:Int).toNat) (K Ex.ret {tmps:=[(2,SV.ptr 0 0),(3,SV.ptr 1 0),(4,SV.bool false),(6,SV.int .i64 (↑i:Int))],store:=[(0,some (SB.cells 34 (aM t))),(1,some (SB.cells 34 (aM u)))],nxt:=2,dirty:=[0,1],nt:=122}) (K Ex.normal {tmps:=[(2,SV.ptr 0 0),(3,SV.ptr 1 0),(4,SV.bool false),(6,SV.int .i64 (IntKind.i64.wrap ((↑i:Int)+1)))],store:=[(0,some (SB.cells 34 (aM t))),(1,some (SB.cells 34 (aM u)))],nxt:=2,dirty:=[0,1],nt:=122})) (False)) (False)) (K (Ex.exit 2) {tmps:=[(2,SV.ptr 0 0),(3,SV.ptr 1 0),(4,SV.bool false),(6,SV.int .i64 (↑i:Int))],store:=[(0,some (SB.cells 34 (aM t))),(1,some (SB.cells 34 (aM u)))],nxt:=2,dirty:=[0,1],nt:=122})):=by kernel_rfl
theorem aDr(t u:Trk)(i:Nat)(K:Ex->St->Prop):aF gvE (aB gvR 0) gvF aCz 4 K (gvS 122 t u 7 i)=
 (Br (decide ((↑i:Int)<(↑t.nk:Int))) (Br (decide (0<=(↑i:Int))&&decide ((↑i:Int)<(↑t.nk:Int))) (Br (decide (0<=(↑i:Int))&&decide ((↑i:Int)<(↑u.nk:Int))) (Br (!(t.kg (↑i:Int).toNat==u.kg (↑i:Int).toNat&&(t.kd (↑i:Int).toNat==u.kd (↑i:Int).toNat&&t.ko (↑i:Int).toNat==u.ko (↑i:Int).toNat))) (K Ex.ret {tmps:=[(2,SV.ptr 0 0),(3,SV.ptr 1 0),(4,SV.bool false),(7,SV.int .i64 (↑i:Int))],store:=[(0,some (SB.cells 34 (aM t))),(1,some (SB.cells 34 (aM u)))],nxt:=2,dirty:=[0,1],nt:=122}) (K Ex.normal {tmps:=[(2,SV.ptr 0 0),(3,SV.ptr 1 0),(4,SV.bool false),(7,SV.int .i64 (IntKind.i64.wrap ((↑i:Int)+1)))],store:=[(0,some (SB.cells 34 (aM t))),(1,some (SB.cells 34 (aM u)))],nxt:=2,dirty:=[0,1],nt:=122})) (False)) (False)) (K (Ex.exit 4) {tmps:=[(2,SV.ptr 0 0),(3,SV.ptr 1 0),(4,SV.bool false),(7,SV.int .i64 (↑i:Int))],store:=[(0,some (SB.cells 34 (aM t))),(1,some (SB.cells 34 (aM u)))],nxt:=2,dirty:=[0,1],nt:=122})):=by kernel_rfl
theorem aGe(t u:Trk)(i:Nat)(K:KC):aE gvE (aB gvR 0) gvF aCw 0 K (.exit 0) (gvS 122 t u 5 i)=
 (∃q_,bO gvE (aB gvR 0) gvF aCZ 2 0 K q_ {tmps:=[(2,SV.ptr 0 0),(3,SV.ptr 1 0),(4,SV.bool false),(6,SV.int .i64 0)],store:=[(0,some (SB.cells 34 (aM t))),(1,some (SB.cells 34 (aM u)))],nxt:=2,dirty:=[0,1],nt:=122}):=by kernel_rfl
theorem aF6(t u:Trk)(i:Nat)(K:KC):aE gvE (aB gvR 0) gvF aCZ 0 K (.exit 2) (gvS 122 t u 6 i)=
 (∃q_,bO gvE (aB gvR 0) gvF aCz 4 0 K q_ {tmps:=[(2,SV.ptr 0 0),(3,SV.ptr 1 0),(4,SV.bool false),(7,SV.int .i64 0)],store:=[(0,some (SB.cells 34 (aM t))),(1,some (SB.cells 34 (aM u)))],nxt:=2,dirty:=[0,1],nt:=122}):=by kernel_rfl
theorem aFU(t u:Trk)(i:Nat)(K:KC):aE gvE (aB gvR 0) gvF aCz 0 K (.exit 4) (gvS 122 t u 7 i)=
 (K (SV.bool true) [] []):=by kernel_rfl
theorem aFf{n m:Nat}{x y x' y':Nat->Int}(hm:n=m)(h: ∀i,i<n->x i=x' i/\y i=y' i)(hn:n<9223372036854775808)(K:KC)(hK:K (.bool true) [] []):eA svR (fun _=>0) o7 2 54 [.ro n 2 (bS x y),.ro m 2 (bS x' y')] [] K:=by
 rw [YX,T7 hm]
 refine ⟨n+1,iQ (fun i:Nat=>svS n m x y x' y' i) n (fun _=>True) (fun i hi _ X hX=> ?_) (fun _ X=> ?_) trivial⟩
 ·rw [LQ,aO hi hn]
  obtain ⟨h1,h2⟩:=h i hi
  exact vZ hi hm (aAz (by simp [h1,h2])) (hX trivial)
 ·rw [LQ]
  refine Br.of (fun c=>mD c) fun _=> ?_
  show aE svE (aB svR 0) svF svP 0 K (.exit 0) (svS n m x y x' y' n)
  rw [X7];exact hK
def BF :List SV->List (Option SB)->KC->Prop
 | [.ro n 2 g,.ro m 2 h],[],K=>pts g/\pts h/\(n=m/\ ∀i,i<n->px (g i)=px (h i)/\py (g i)=py (h i))/\K (.bool true) [] []
 |_,_,_=>False
theorem KS(xs:List SV)(σ:List (Option SB)):Sat Tryz.prog 54 xs σ (BF xs σ):=by
 intro K hK
 unfold BF at hK
 split at hK
 ·obtain ⟨h1,h2,⟨h3,h4⟩,hK⟩:=hK
  refine ⟨_,_,_,hK, ?_⟩
  rw [xG h1,xG h2]
  exact iC svR (fun _=>0) o7 2 (fun p hp=>by cases hp) fun h5 _ K hK=>aFf h3 h4 h5.1.1 K (hK _ fun _ h=>h)
 ·exact hK.elim
theorem aEn{t u:Trk}(h:oZ t u)(n1:t.nh<9223372036854775808)(n2:t.ng<9223372036854775808)(n3:t.nk<9223372036854775808)(K:KC)(hK:K (.bool true) [] []):eA gvR (fun _=>0) o7 2 53 [.agg (aM t),.agg (aM u)] [] K:=by
 obtain ⟨⟨a1,a2,a3,a4,a5,a6,a7,a8,a9⟩,b1,b2,b3,_⟩:=h
 rw [ZV,HU a1,HU a2,HU a3,HU a4,show (!(t.cx==u.cx&&t.cy==u.cy))=false from aAz (by simp [a5,a6]),T7 a7,T7 a8,T7 a9]
 refine ⟨t.nh+1,iQ (fun i:Nat=>gvS 122 t u 5 i) t.nh (fun _=>True) (fun i hi _ X hX=> ?_) (fun _ X=> ?_) trivial⟩
 ·rw [aDb,aO hi n1]
  exact vZ hi a7 (HU (b1 i hi)) (hX trivial)
 rw [aDb]
 refine Br.of (fun c=>mD c) fun _=> ?_
 show aE gvE (aB gvR 0) gvF aCw 0 K (.exit 0) (gvS 122 t u 5 t.nh)
 rw [aGe]
 refine ⟨t.ng+1,iQ (fun i:Nat=>gvS 122 t u 6 i) t.ng (fun _=>True) (fun i hi _ X hX=> ?_) (fun _ X=> ?_) trivial⟩
 ·rw [aDa,aO hi n2]
  exact vZ hi a8 (HU (b2 i hi)) (hX trivial)
 rw [aDa]
 refine Br.of (fun c=>mD c) fun _=> ?_
 show aE gvE (aB gvR 0) gvF aCZ 0 K (.exit 2) (gvS 122 t u 6 t.ng)
 rw [aF6]
 refine ⟨t.nk+1,iQ (fun i:Nat=>gvS 122 t u 7 i) t.nk (fun _=>True) (fun i hi _ X hX=> ?_) (fun _ X=> ?_) trivial⟩
 ·rw [aDr,aO hi n3]
  obtain ⟨c1,c2,c3⟩:=b3 i hi
  exact vZ hi a9 (aAz (by simp [c1,c2,c3])) (hX trivial)
 rw [aDr]
 refine Br.of (fun c=>mD c) fun _=> ?_
 show aE gvE (aB gvR 0) gvF aCz 0 K (.exit 4) (gvS 122 t u 7 t.nk)
 rw [aFU];exact hK
theorem KE(xs:List SV)(σ:List (Option SB)):Sat Tryz.prog 53 xs σ (uN xs σ):=
 AA (fun _ _ h=>iC gvR (fun _=>0) o7 2 (fun p hp=>by cases hp) fun h5 _ K hK=>aEn h (CC h5.1).1 (CC h5.1).2.1 (CC h5.1).2.2.1 K (hK _ fun _ h=>h)) xs σ
noncomputable def oa :bT Tryz.prog:=((o7).add 54 BF KS).add 53 uN KE
def saR :List (Nat×eR):=[(0,⟨[2,3,4,5],[0,1],[0,1],2,[]⟩),(2,⟨[2,3,4,6],[0,1],[0,1],2,[]⟩)]
noncomputable abbrev saE :Env:=fW saR (fun _=>0) oa 1
noncomputable abbrev saF :Func:=Tryz.f13
abbrev aCn :List Nat:=[1,1,0,1,0]
abbrev aBT :List Nat:=[1,1,1,0,1,0]
theorem X4(t u:Trk)(K:KC):eA saR (fun _=>0) oa 2 13 [.agg (aM t),.agg (aM u)] [] K=
 ((kE (aP t.h) (aP t.g) (eY t) (bS t.lx t.ly) (cH t) (eV t))/\((kE (aP u.h) (aP u.g) (eY u) (bS u.lx u.ly) (cH u) (eV u))/\((oZ t u)/\((pts (bS t.lx t.ly))/\((pts (bS u.lx u.ly))/\((t.nl=u.nl/\ ∀(i:Nat),i<t.nl->px (bS t.lx t.ly i)=px (bS u.lx u.ly i)/\py (bS t.lx t.ly i)=py (bS u.lx u.ly i))/\(Br ((↑t.nr:Int) !=(↑u.nr:Int)) (K (SV.bool false) [] []) (Br ((↑t.nt:Int) !=(↑u.nt:Int)) (K (SV.bool false) [] []) (Br (!(t.sx==u.sx&&t.sy==u.sy)) (K (SV.bool false) [] []) (Br (t.head !=u.head) (K (SV.bool false) [] []) (Br (t.laps !=u.laps) (K (SV.bool false) [] []) (∃q_,bO saE (aB saR 0) saF aCn 0 0 K q_ {tmps:=[(2,SV.ptr 0 0),(3,SV.ptr 1 0),(4,SV.bool false),(5,SV.int .i64 0)],store:=[(0,some (SB.cells 34 (aM t))),(1,some (SB.cells 34 (aM u)))],nxt:=2,dirty:=[0,1],nt:=95})))))))))))):=by kernel_rfl
theorem aDv(t u:Trk)(i:Nat)(K:Ex->St->Prop):aF saE (aB saR 0) saF aCn 0 K (gvS 95 t u 5 i)=
 (Br (decide ((↑i:Int)<(↑t.nr:Int))) (Br (decide (0<=(↑i:Int))&&decide ((↑i:Int)<(↑t.nr:Int))) (Br (decide (0<=(↑i:Int))&&decide ((↑i:Int)<(↑u.nr:Int))) ((pts (bS (t.rx (↑i:Int).toNat) (t.ry (↑i:Int).toNat)))/\((pts (bS (u.rx (↑i:Int).toNat) (u.ry (↑i:Int).toNat)))/\((t.rn (↑i:Int).toNat=u.rn (↑i:Int).toNat/\ ∀(i_1:Nat),i_1<t.rn (↑i:Int).toNat->px (bS (t.rx (↑i:Int).toNat) (t.ry (↑i:Int).toNat) i_1)=px (bS (u.rx (↑i:Int).toNat) (u.ry (↑i:Int).toNat) i_1)/\py (bS (t.rx (↑i:Int).toNat) (t.ry (↑i:Int).toNat) i_1)=py (bS (u.rx (↑i:Int).toNat) (u.ry (↑i:Int).toNat) i_1))/\(K Ex.normal {tmps:=[(2,SV.ptr 0 0),(3,SV.ptr 1 0),(4,SV.bool false),(5,SV.int .i64 (IntKind.i64.wrap ((↑i:Int)+1)))],store:=[(0,some (SB.cells 34 (aM t))),(1,some (SB.cells 34 (aM u)))],nxt:=2,dirty:=[0,1],nt:=95})))) (False)) (False)) (K (Ex.exit 0) {tmps:=[(2,SV.ptr 0 0),(3,SV.ptr 1 0),(4,SV.bool false),(5,SV.int .i64 (↑i:Int))],store:=[(0,some (SB.cells 34 (aM t))),(1,some (SB.cells 34 (aM u)))],nxt:=2,dirty:=[0,1],nt:=95})):=by kernel_rfl
theorem aDh(t u:Trk)(i:Nat)(K:Ex->St->Prop):aF saE (aB saR 0) saF aBT 2 K (gvS 95 t u 6 i)=
 (Br (decide ((↑i:Int)<(↑t.nt:Int))) (Br (decide (0<=(↑i:Int))&&decide ((↑i:Int)<(↑t.nt:Int))) (Br (decide (0<=(↑i:Int))&&decide ((↑i:Int)<(↑u.nt:Int))) (Br (!(t.ax (↑i:Int).toNat==u.ax (↑i:Int).toNat&&t.ay (↑i:Int).toNat==u.ay (↑i:Int).toNat&&(t.bx (↑i:Int).toNat==u.bx (↑i:Int).toNat&&t.sb (↑i:Int).toNat==u.sb (↑i:Int).toNat&&t.sp (↑i:Int).toNat==u.sp (↑i:Int).toNat))) (K Ex.ret {tmps:=[(2,SV.ptr 0 0),(3,SV.ptr 1 0),(4,SV.bool false),(6,SV.int .i64 (↑i:Int))],store:=[(0,some (SB.cells 34 (aM t))),(1,some (SB.cells 34 (aM u)))],nxt:=2,dirty:=[0,1],nt:=95}) (K Ex.normal {tmps:=[(2,SV.ptr 0 0),(3,SV.ptr 1 0),(4,SV.bool false),(6,SV.int .i64 (IntKind.i64.wrap ((↑i:Int)+1)))],store:=[(0,some (SB.cells 34 (aM t))),(1,some (SB.cells 34 (aM u)))],nxt:=2,dirty:=[0,1],nt:=95})) (False)) (False)) (K (Ex.exit 2) {tmps:=[(2,SV.ptr 0 0),(3,SV.ptr 1 0),(4,SV.bool false),(6,SV.int .i64 (↑i:Int))],store:=[(0,some (SB.cells 34 (aM t))),(1,some (SB.cells 34 (aM u)))],nxt:=2,dirty:=[0,1],nt:=95})):=by kernel_rfl
theorem aGf(t u:Trk)(i:Nat)(K:KC):aE saE (aB saR 0) saF aCn 0 K (.exit 0) (gvS 95 t u 5 i)=
 (∃q_,bO saE (aB saR 0) saF aBT 2 0 K q_ {tmps:=[(2,SV.ptr 0 0),(3,SV.ptr 1 0),(4,SV.bool false),(6,SV.int .i64 0)],store:=[(0,some (SB.cells 34 (aM t))),(1,some (SB.cells 34 (aM u)))],nxt:=2,dirty:=[0,1],nt:=95}):=by kernel_rfl
theorem aGk(t u:Trk)(i:Nat)(K:KC):aE saE (aB saR 0) saF aBT 0 K (.exit 2) (gvS 95 t u 6 i)=
 (K (SV.bool true) [] []):=by kernel_rfl
theorem WN{i n m:Nat}(hi:i<n)(hm:n=m){N X:Prop}(h:N):
  Br (decide ((i:Int)<(n:Int))) (Br (decide (0<=(i:Int))&&decide ((i:Int)<(n:Int))) (Br (decide (0<=(i:Int))&&decide ((i:Int)<(m:Int))) N False) False) X:=by
 subst hm
 exact Br.of (fun _=>Br.of (fun _=>Br.of (fun _=>h) fun c=>nH hi c) fun c=>nH hi c) fun c=>nF hi c
theorem aFs{t u:Trk}(h:oZ t u)(n1:t.nr<9223372036854775808)(n2:t.nt<9223372036854775808)(K:KC)(hK:K (.bool true) [] []):eA saR (fun _=>0) oa 2 13 [.agg (aM t),.agg (aM u)] [] K:=by
 have h0:=h
 obtain ⟨_,_,_,_,⟨c1,c2⟩,⟨d1,d2⟩,⟨e1,e2⟩,f1,f2,f3,f4⟩:=h
 rw [X4,T7 d1,T7 e1,show (!(t.sx==u.sx&&t.sy==u.sy))=false from aAz (by simp [f1,f2]),HU f3,HU f4]
 refine ⟨fT t,fT u,h0,fun _=>rfl,fun _=>rfl,⟨c1,c2⟩, ?_⟩
 refine ⟨t.nr+1,iQ (fun i:Nat=>gvS 95 t u 5 i) t.nr (fun _=>True) (fun i hi _ X hX=> ?_) (fun _ X=> ?_) trivial⟩
 ·rw [aDv,aO hi n1]
  exact WN hi d1 ⟨fun _=>rfl,fun _=>rfl,d2 i hi,hX trivial⟩
 rw [aDv]
 refine Br.of (fun c=>mD c) fun _=> ?_
 show aE saE (aB saR 0) saF aCn 0 K (.exit 0) (gvS 95 t u 5 t.nr)
 rw [aGf]
 refine ⟨t.nt+1,iQ (fun i:Nat=>gvS 95 t u 6 i) t.nt (fun _=>True) (fun i hi _ X hX=> ?_) (fun _ X=> ?_) trivial⟩
 ·rw [aDh,aO hi n2]
  obtain ⟨g1,g2,g3,g4,g5⟩:=e2 i hi
  exact vZ hi e1 (aAz (by simp [g1,g2,g3,g4,g5])) (hX trivial)
 rw [aDh]
 refine Br.of (fun c=>mD c) fun _=> ?_
 show aE saE (aB saR 0) saF aBT 0 K (.exit 2) (gvS 95 t u 6 t.nt)
 rw [aGk];exact hK
theorem KM{t u:Trk}(h:oZ t u):aD Tryz.prog 13 [.agg (aM t),.agg (aM u)] [] (.bool true) [] []:=
 iC saR (fun _=>0) oa 2 (fun p hp=>by cases hp) fun h5 _ K hK=>aFs h (CC h5.1).2.2.2.2.1 (CC h5.1).2.2.2.2.2 K (hK _ fun _ h=>h)
theorem E8(xs:List SV)(σ:List (Option SB)):Sat Tryz.prog 13 xs σ (uN xs σ):=
 AA (fun _ _ h=>KM h) xs σ
noncomputable def ob :bT Tryz.prog:=(oa).add 13 uN E8
end Go.Proofs.YtghnfjfkjhbgdaaGreatDoor
namespace Go.Se
abbrev Ln :=List Int×List (List Int)
def oN :List Ln->List Int
 | []=>[]
 |l::r=>lnW l.1 l.2++oN r
def qOf :Int->List Ln->List (Int×List (List Int))
 |_,[]=>[]
 |k,l::r=>(k+1,l.1::l.2)::qOf (k+1) r
def GO(l:Ln):Prop:=(l.1≠[]/\cM l.1)/\ ∀x,x∈l.2->x≠[]/\cM x
theorem aDq : ∀(ls:List Ln) (k:Int),(∀l,l∈ls->GO l)->nbF k (lnR [] (oN ls))=qOf k ls
 | [],_,_=>rfl
 |l::r,k,h=>by
  obtain ⟨⟨h1,h2⟩,h3⟩:=h l (List.mem_cons_self ..)
  show nbF k (lnR [] ((l.1++gZ l.2++[10])++oN r))=_
  rw [List.append_assoc _ [10]]
  show nbF k (lnR [] (l.1++gZ l.2++10::oN r))=_
  rw [aCk h1 h2 h3,aDq r (k+1) fun x hx=>h x (List.mem_cons_of_mem _ hx)];rfl
theorem HB : ∀a b:List Ln,oN (a++b)=oN a++oN b
 | [],_=>rfl
 |l::a,b=>by show lnW l.1 l.2++oN (a++b)=(lnW l.1 l.2++oN a)++oN b;rw [HB a b,List.append_assoc]
def AtQ(ls:List Ln)(b:Bk):Prop:=(∃k,b.q=qOf k ls)/\b.err=0/\b.place=0
theorem aBs{ls:List Ln}(h: ∀l,l∈ls->GO l):AtQ ls (jH (oN ls)):=⟨⟨0,aDq ls 0 h⟩,rfl,rfl⟩
theorem RL(a:ByteArray):(a==a)=true:=by rw [show (a==a)=(a.data==a.data) from rfl,beq_self_eq_true]
theorem aCQ{w:List Int}{r:List (List Int)}{ls:List Ln}{b:Bk}(h:AtQ ((w,r)::ls) b):fG b (ba w)=true:=by
 obtain ⟨⟨k,hq⟩,he,_⟩:=h
 unfold fG dA
 rw [hq,he]
 show (true&&(true&&(bytesOf w==ba w)))=true
 rw [RL];rfl
theorem J9{w v:List Int}{r:List (List Int)}{ls:List Ln}{b:Bk}(h:AtQ ((w,r)::ls) b)(hv:(ba w==ba v)=false):fG b (ba v)=false:=by
 obtain ⟨⟨k,hq⟩,he,_⟩:=h
 unfold fG dA
 rw [hq,he]
 show (true&&(true&&(bytesOf w==ba v)))=false
 rw [hv];rfl
theorem RQ{w:List Int}{r:List (List Int)}{ls:List Ln}{b:Bk}(h:AtQ ((w,r)::ls) b){lo hi:Int}(h1:lo<=r.length)(h2:(r.length:Int)<=hi)(all:Int):
  fV b (ba w) lo hi=false/\iD b=r/\AtQ ls (gJ all b (ba w) lo hi):=by
 obtain ⟨⟨k,hq⟩,he,hp⟩:=h
 have hh:dA b.q=(k+1,w::r):=by unfold dA;rw [hq];rfl
 have hE:lZ b (ba w) lo hi=0:=by
  unfold lZ
  rw [hh,show b.q.isEmpty=false by rw [hq];rfl]
  show (bif !(bytesOf w==ba w) then (21:Int) else bif decide ((((w::r).length:Int) - 1)<lo)||decide ((((w::r).length:Int) - 1)>hi) then 22 else 0)=0
  rw [RL,List.length_cons,decide_eq_false (show¬(((r.length+1:Nat):Int) - 1<lo) by omega),decide_eq_false (show¬(((r.length+1:Nat):Int) - 1>hi) by omega)];rfl
 refine ⟨?_, ?_, ?_⟩
 ·unfold fV;rw [he,hE];rfl
 ·unfold iD;rw [hh];rfl
 ·unfold gJ
  rw [he,hE]
  exact ⟨⟨k+1,by show b.q.tail=_;rw [hq];rfl⟩,rfl,hp⟩
theorem uJ{w:List Int}{r:List (List Int)}{ls:List Ln}{b:Bk}(h:AtQ ((w,r)::ls) b){n:Nat}(hn:r.length=n)(all:Int):lnV b (ba w) n=r/\AtQ ls (lnB all b (ba w) n):=by
 obtain ⟨h1,h2,h3⟩:=RQ h (lo:=n) (hi:=n) (by omega) (by omega) all
 exact ⟨by unfold lnV;rw [h1,h2];rfl,h3⟩
theorem sV{ls:List Ln}{b:Bk}(h:AtQ ls b){n:Int}(hn:bY n):wK b (rl (aC n))=n/\kH b (rl (aC n))=b:=by
 have e:rl (aC n)=aC n:=cG (j9 n)
 obtain ⟨h1,h2⟩:=aAY (b:=b) h.2.1 hn.1 hn.2
 rw [e];exact ⟨h2,h1⟩
theorem AH{ls:List Ln}{b:Bk}(h:AtQ ls b){n lo hi:Int}(h0: -999999999999999999<=n)(h1:n<=999999999999999999)(hl:lo<=n)(hh:n<=hi):kF b (rl (aJ n)) lo hi=n/\iI b (rl (aJ n)) lo hi=b:=by
 obtain ⟨a,c⟩:=XG (b:=b) h.2.1 h0 h1 hl hh
 exact ⟨c,a⟩
theorem aGh{ls:List Ln}{b:Bk}(h:AtQ ls b)(z:Bool):(oA b (ba (onW z)) [ba wOn,ba IE]==1)=z/\jZ b (ba (onW z)) [ba wOn,ba IE]=b:=by
 have he:(b.err==0)=true:=by rw [h.2.1];rfl
 cases z with
 |false=>obtain ⟨a,c⟩:=j8 (s:=ba wOn) (ws:=[ba wOn,ba IE]) (j:=0) he (by decide+kernel) (by decide);exact ⟨by show (oA b (ba wOn) _==1)=_;rw [a];rfl,c⟩
 |true=>obtain ⟨a,c⟩:=j8 (s:=ba IE) (ws:=[ba wOn,ba IE]) (j:=1) he (by decide+kernel) (by decide);exact ⟨by show (oA b (ba IE) _==1)=_;rw [a];rfl,c⟩
theorem aFW{ls:List Ln}{b:Bk}(h:AtQ ls b)(z:Bool):(oA b (ba (gX z)) [ba qM,ba qQ]==1)=z/\jZ b (ba (gX z)) [ba qM,ba qQ]=b:=by
 have he:(b.err==0)=true:=by rw [h.2.1];rfl
 cases z with
 |false=>obtain ⟨a,c⟩:=j8 (s:=ba qM) (ws:=[ba qM,ba qQ]) (j:=0) he (by decide+kernel) (by decide);exact ⟨by show (oA b (ba qM) _==1)=_;rw [a];rfl,c⟩
 |true=>obtain ⟨a,c⟩:=j8 (s:=ba qQ) (ws:=[ba qM,ba qQ]) (j:=1) he (by decide+kernel) (by decide);exact ⟨by show (oA b (ba qQ) _==1)=_;rw [a];rfl,c⟩
theorem E0{ls:List Ln}{b:Bk}(h:AtQ ls b): ∀(L acc:List Int),(∀x,x∈L->bY x)->(L.map aC).foldl rT (acc,b)=(acc++L,b)
 | [],acc,_=>by rw [List.append_nil];rfl
 |x::L,acc,hL=>by
  obtain ⟨a,c⟩:=sV h (hL x (List.mem_cons_self ..))
  show (L.map aC).foldl rT (acc++[wK b (rl (aC x))],kH b (rl (aC x)))=_
  rw [a,c,E0 h L _ fun y hy=>hL y (List.mem_cons_of_mem _ hy),List.append_assoc];rfl
theorem ES{ls:List Ln}{b:Bk}(h:AtQ ls b){lo hi:Int}(h0: -999999999999999999<=lo)(h1:hi<=999999999999999999): ∀(L acc:List Int),(∀x,x∈L->lo<=x/\x<=hi)->(L.map aJ).foldl (mB lo hi) (acc,b)=(acc++L,b)
 | [],acc,_=>by rw [List.append_nil];rfl
 |x::L,acc,hL=>by
  obtain ⟨x1,x2⟩:=hL x (List.mem_cons_self ..)
  obtain ⟨a,c⟩:=AH h (n:=x) (lo:=lo) (hi:=hi) (by omega) (by omega) x1 x2
  show (L.map aJ).foldl (mB lo hi) (acc++[kF b (rl (aJ x)) lo hi],iI b (rl (aJ x)) lo hi)=_
  rw [a,c,ES h h0 h1 L _ fun y hy=>hL y (List.mem_cons_of_mem _ hy),List.append_assoc];rfl
theorem sT{α:Type}(f:Nat->α)(n:Nat):lst f (n+1)=lst f n++[f n]:=by unfold lst;rw [List.range_succ,List.map_append];rfl
theorem xX{α:Type}{f:Bk->List α×Bk}{line:Nat->Ln}{val:Nat->List α}: ∀(n:Nat) (ls:List Ln) (b:Bk),(∀i,i<n-> ∀ls b,AtQ (line i::ls) b->(f b).1=val i/\AtQ ls (f b).2)->AtQ (lst line n++ls) b->
  (dX f n b).1=(lst val n).flatten/\AtQ ls (dX f n b).2
 |0,_,_,_,h=>⟨rfl,h⟩
 |n+1,ls,b,hs,h=>by
  rw [sT,List.append_assoc] at h
  obtain ⟨h1,h2⟩:=xX n (line n::ls) b (fun i hi=>hs i (by omega)) h
  obtain ⟨h3,h4⟩:=hs n (Nat.lt_succ_self n) ls _ h2
  refine ⟨?_,h4⟩
  show (dX f n b).1++(f (dX f n b).2).1=_
  rw [h1,h3,sT,List.flatten_append];simp
theorem oX{α:Type}{w:List Int}{one:Bk->α×Bk}{piece:α->List (List Int)}{ls:List Ln}: ∀(xs:List α) (n:Nat) (acc:List α) (b:Bk),xs.length<=n->(xs.length<n-> ∀b',AtQ ls b'->fG b' (ba w)=false)->
  (∀x,x∈xs-> ∀ls b,AtQ ((w,piece x)::ls) b->(one b).1=x/\AtQ ls (one b).2)->AtQ (xs.map (fun x=>(w,piece x))++ls) b->(cY (ba w) one n (acc,b)).1=acc++xs/\AtQ ls (cY (ba w) one n (acc,b)).2
 | [],0,acc,b,_,_,_,h=>⟨by rw [List.append_nil];rfl,h⟩
 | [],n+1,acc,b,_,hn,_,h=>by
  have:=hn (Nat.succ_pos n) b h
  unfold cY
  rw [this]
  exact ⟨by rw [List.append_nil];rfl,h⟩
 |x::xs,0,_,_,h,_,_,_=>absurd h (by simp)
 |x::xs,n+1,acc,b,hl,hn,hs,h=>by
  have h:AtQ ((w,piece x)::(xs.map (fun x=>(w,piece x))++ls)) b:=h
  obtain ⟨h1,h2⟩:=hs x (List.mem_cons_self ..) _ b h
  unfold cY
  rw [aCQ h]
  simp only [cond_true]
  rw [h1]
  have:=oX xs n (acc++[x]) (one b).2 (by simpa using hl) (fun hlt=>hn (by simpa using hlt)) (fun y hy=>hs y (List.mem_cons_of_mem _ hy)) h2
  rw [List.append_assoc] at this
  exact this
theorem FT(x y:Nat->Int): ∀(m a i:Nat),i<m->(dD x y a m).getD (2*i) []=aC (x (a+i))/\(dD x y a m).getD (2*i+1) []=aC (y (a+i))
 |0,_,_,h=>absurd h (Nat.not_lt_zero _)
 |m+1,a,0,_=>⟨rfl,rfl⟩
 |m+1,a,i+1,h=>by
  have:=FT x y m (a+1) i (by omega)
  rw [show a+1+i=a+(i+1) by omega] at this
  exact this
theorem JJ{ls:List Ln}{b:Bk}(h:AtQ ls b){x y:Nat->Int}{m:Nat}(hx: ∀i,i<m->bY (x i)/\bY (y i)): ∀n,n<=m->oF b (dD x y 0 m) n=(lst (fun k=>(x k,y k)) n,b)
 |0,_=>rfl
 |n+1,hn=>by
  have e:=JJ h hx n (by omega)
  obtain ⟨p1,p2⟩:=FT x y m 0 n (by omega)
  rw [Nat.zero_add] at p1 p2
  obtain ⟨a1,a2⟩:=sV h (hx n (by omega)).1
  obtain ⟨c1,c2⟩:=sV h (hx n (by omega)).2
  unfold oF
  rw [e,sT]
  simp only
  unfold plP
  rw [p1,p2,a1,a2,c1,c2]
end Go.Se
namespace Go.Se
theorem GD{w:List Int}{n lo hi:Int}{ls:List Ln}{b:Bk}(h:AtQ ((w,[aJ n])::ls) b)(h0: -999999999999999999<=n)(h1:n<=999999999999999999)(hl:lo<=n)(hh:n<=hi)(all:Int):
  (IH all (ba w) lo hi b).1=n/\AtQ ls (IH all (ba w) lo hi b).2:=by
 obtain ⟨e,h⟩:=uJ h (n:=1) rfl all
 obtain ⟨a,c⟩:=AH h h0 h1 hl hh
 unfold IH
 rw [e]
 exact ⟨a,by show AtQ ls (iI _ (rl (aJ n)) lo hi);rw [c];exact h⟩
theorem UU{w:List Int}{n:Int}{ls:List Ln}{b:Bk}(h:AtQ ((w,[aC n])::ls) b)(hn:bY n)(all:Int):(ND all (ba w) b).1=n/\AtQ ls (ND all (ba w) b).2:=by
 obtain ⟨e,h⟩:=uJ h (n:=1) rfl all
 obtain ⟨a,c⟩:=sV h hn
 unfold ND
 rw [e]
 exact ⟨a,by show AtQ ls (kH _ (rl (aC n)));rw [c];exact h⟩
theorem TX{m n:Int}{ls:List Ln}{b:Bk}(h:AtQ ((nM,[aJ m,aJ n])::ls) b)(hm:1<=m/\m<=64)(hn:1<=n/\n<=64)(all:Int):(vK all b).1=(m,n)/\AtQ ls (vK all b).2:=by
 obtain ⟨e,h⟩:=uJ h (n:=2) rfl all
 obtain ⟨a,c⟩:=AH h (n:=m) (lo:=1) (hi:=64) (by omega) (by omega) hm.1 hm.2
 obtain ⟨a2,c2⟩:=AH h (n:=n) (lo:=1) (hi:=64) (by omega) (by omega) hn.1 hn.2
 unfold vK
 rw [e]
 simp only [show ([aJ m,aJ n]:List (List Int)).getD 0 []=aJ m from rfl,show ([aJ m,aJ n]:List (List Int)).getD 1 []=aJ n from rfl,a,c,a2,c2]
 exact ⟨trivial,h⟩
theorem sB{ls:List Ln}{b:Bk}(h:AtQ ls b){x y:Int}(hx:bY x/\bY y){p:List (List Int)}{i:Nat}(h0:p.getD i []=aC x)(h1:p.getD (i+1) []=aC y):plP b p i=((x,y),b):=by
 obtain ⟨a,c⟩:=sV h hx.1
 obtain ⟨a2,c2⟩:=sV h hx.2
 unfold plP
 rw [h0,h1,a,c,a2,c2]
theorem HZ{x y:Int}{ls:List Ln}{b:Bk}(h:AtQ ((j0,[aC x,aC y])::ls) b)(hx:bY x/\bY y)(all:Int):(qF all b).1=(x,y)/\AtQ ls (qF all b).2:=by
 obtain ⟨e,h⟩:=uJ h (n:=2) rfl all
 unfold qF
 rw [e,sB h hx rfl rfl]
 exact ⟨rfl,h⟩
theorem IT{x y n:Int}{ls:List Ln}{b:Bk}(h:AtQ ((gW,[aC x,aC y,aJ n])::ls) b)(hx:bY x/\bY y)(hn:0<=n/\n<=4294967295)(all:Int):(xK all b).1=((x,y),n)/\AtQ ls (xK all b).2:=by
 obtain ⟨e,h⟩:=uJ h (n:=3) rfl all
 obtain ⟨a,c⟩:=AH h (n:=n) (lo:=0) (hi:=4294967295) (by omega) (by omega) hn.1 hn.2
 unfold xK
 rw [e]
 simp only
 rw [sB h hx (p:=[aC x,aC y,aJ n]) (i:=0) rfl rfl]
 simp only [show ([aC x,aC y,aJ n]:List (List Int)).getD 2 []=aJ n from rfl,a,c]
 exact ⟨trivial,h⟩
def kLn(x:Int×Int×Bool):List (List Int):=[aC x.1,aC x.2.1,onW x.2.2]
def pLn(x:Int×Int):List (List Int):=[aC x.1,aC x.2]
def rLn(l:List (Int×Int)):List (List Int):=dD (fun k=>(l.getD k (0,0)).1) (fun k=>(l.getD k (0,0)).2) 0 l.length
def gLn(x:Int×Int×Int×Int×Bool):List (List Int):=[aC x.1,aC x.2.1,aC x.2.2.1,aC x.2.2.2.1,gX x.2.2.2.2]
theorem MY{x:Int×Int×Bool}{ls:List Ln}{b:Bk}(h:AtQ ((iK,kLn x)::ls) b)(hx:bY x.1/\bY x.2.1)(all:Int):(g7 all b).1=x/\AtQ ls (g7 all b).2:=by
 obtain ⟨e,h⟩:=uJ h (n:=3) rfl all
 obtain ⟨a,c⟩:=sV h hx.1
 obtain ⟨a2,c2⟩:=sV h hx.2
 obtain ⟨a3,c3⟩:=aGh h x.2.2
 unfold g7
 rw [e]
 simp only [show (kLn x).getD 0 []=aC x.1 from rfl,show (kLn x).getD 1 []=aC x.2.1 from rfl,show (kLn x).getD 2 []=onW x.2.2 from rfl,a,c,a2,c2,a3,c3]
 exact ⟨trivial,h⟩
theorem I3{x:Int×Int}{ls:List Ln}{b:Bk}(h:AtQ ((fK,pLn x)::ls) b)(hx:bY x.1/\bY x.2)(all:Int):(fL all b).1=x/\AtQ ls (fL all b).2:=by
 obtain ⟨e,h⟩:=uJ h (n:=2) rfl all
 unfold fL
 rw [e,sB h hx rfl rfl]
 exact ⟨rfl,h⟩
theorem OO{x:Int×Int×Int×Int×Bool}{ls:List Ln}{b:Bk}(h:AtQ ((gA,gLn x)::ls) b)(hx:bY x.1/\bY x.2.1/\bY x.2.2.1/\bY x.2.2.2.1)(all:Int):(iW all b).1=x/\AtQ ls (iW all b).2:=by
 obtain ⟨e,h⟩:=uJ h (n:=5) rfl all
 obtain ⟨h1,h2,h3,h4⟩:=hx
 obtain ⟨a3,c3⟩:=aFW h x.2.2.2.2
 unfold iW
 rw [e]
 simp only
 rw [sB h ⟨h1,h2⟩ (p:=gLn x) (i:=0) rfl rfl]
 simp only
 rw [sB h ⟨h3,h4⟩ (p:=gLn x) (i:=2) rfl rfl]
 simp only [show (gLn x).getD 4 []=gX x.2.2.2.2 from rfl,a3,c3]
 exact ⟨trivial,h⟩
theorem PD{l:List (Int×Int)}{ls:List Ln}{b:Bk}(h:AtQ ((eC,rLn l)::ls) b)(h2:2<=(l.length:Int)/\(l.length:Int)<=64)(hx: ∀c,c∈l->bY c.1/\bY c.2)(all:Int):(fI all b).1=l/\AtQ ls (fI all b).2:=by
 have hl:(rLn l).length=2*l.length:=fJ _ _ _ _
 obtain ⟨e1,e2,h⟩:=RQ h (lo:=2) (hi:=128) (by omega) (by omega) all
 have hp:=JJ h (x:=fun k=>(l.getD k (0,0)).1) (y:=fun k=>(l.getD k (0,0)).2) (m:=l.length) (fun i hi=>hx _ (wH hi)) l.length (Nat.le_refl _)
 unfold fI
 rw [e1,e2]
 simp only [cond_false,hl]
 rw [show (2*l.length%2==1)=false by rw [Nat.mul_mod_right];rfl,show 2*l.length/2=l.length by omega]
 show (oF _ (rLn l) l.length).1=l/\AtQ ls (oF _ (rLn l) l.length).2
 rw [show oF (gJ all b (ba eC) 2 128) (rLn l) l.length=_ from hp]
 exact ⟨mW l (0,0),h⟩
theorem YU{f:Nat->Int}{m i:Nat}{ls:List Ln}{b:Bk}(h:AtQ ((gQ,fQ f (i*m) m)::ls) b)(hx: ∀j,bY (f j))(all:Int):(lV all m b).1=(List.range' (i*m) m).map f/\AtQ ls (lV all m b).2:=by
 obtain ⟨e,h⟩:=uJ h (n:=m) (kR _ _ _) all
 unfold lV g8
 rw [e,show fQ f (i*m) m=((List.range' (i*m) m).map f).map aC by unfold fQ;rw [List.map_map];rfl,E0 h _ [] fun x hx'=>by
  obtain ⟨j,_,rfl⟩:=List.mem_map.1 hx'
  exact hx j]
 exact ⟨rfl,h⟩
theorem Y3{f:Nat->Int}{m i:Nat}{ls:List Ln}{b:Bk}(h:AtQ ((iP,fO f (i*m) m)::ls) b)(hx: ∀j,0<=f j/\f j<=7)(all:Int):(qP all m b).1=(List.range' (i*m) m).map f/\AtQ ls (qP all m b).2:=by
 obtain ⟨e,h⟩:=uJ h (n:=m) (kO _ _ _) all
 unfold qP
 rw [e,show fO f (i*m) m=((List.range' (i*m) m).map f).map aJ by unfold fO;rw [List.map_map];rfl,ES h (by decide) (by decide) _ [] fun x hx'=>by
  obtain ⟨j,_,rfl⟩:=List.mem_map.1 hx'
  exact hx j]
 exact ⟨rfl,h⟩
theorem PJ(f:Nat->Int)(m:Nat): ∀r,(lst (fun i=>(List.range' (i*m) m).map f) r).flatten=lst f (r*m)
 |0=>by rw [Nat.zero_mul];rfl
 |r+1=>by
  rw [sT,List.flatten_append,PJ f m r,Nat.add_mul,Nat.one_mul]
  unfold lst
  rw [List.range_eq_range',List.range_eq_range',List.flatten_singleton,<- List.map_append]
  congr 1
  have:=List.range'_append (s:=0) (m:=r*m) (n:=m) (step:=1)
  simpa using this
theorem jD(g:Nat->Ln): ∀n,bK (fun i=>lnW (g i).1 (g i).2) 0 n=oN (lst g n)
 |0=>rfl
 |n+1=>by rw [jK,jD g n,sT,HB,Nat.zero_add];show _=_++(lnW (g n).1 (g n).2++[]);rw [List.append_nil]
theorem zR{α:Type}(F:α->Ln)(xs:List α)(d:α):lst (fun i=>F (xs.getD i d)) xs.length=xs.map F:=by
 have:=congrArg (List.map F) (mW xs d)
 unfold lst at this|-
 rw [List.map_map] at this
 exact this
def hLn(t:TL)(i:Nat):Ln:=(gQ,fQ t.trk.h (i*(t.cols+1).toNat) (t.cols+1).toNat)
def oLn(t:TL)(i:Nat):Ln:=(iP,fO t.trk.g (i*t.cols.toNat) t.cols.toNat)
def CA(t:TL):List Ln:=[(gW,[aC t.start.1,aC t.start.2,aJ t.head]),(pB,[aJ t.laps])]
def BE(t:TL):List Ln:=t.line.map (fun x=>(fK,pLn x))++(t.rails.map (fun x=>(eC,rLn x))++(t.gates.map (fun x=>(gA,gLn x))++CA t))
def pM(t:TL):List Ln:=(rN,[aJ t.rate])::(rK,[aC t.cell])::(nM,[aJ t.cols,aJ t.rows])::(j0,[aC t.corner.1,aC t.corner.2])::
 (lst (hLn t) (t.rows+1).toNat++(lst (oLn t) t.rows.toNat++(t.kinds.map (fun x=>(iK,kLn x))++BE t)))
theorem AR(t:TL):vM t.trk=oN (pM t):=by
 have e1:bK (fun r=>lnW gQ (fQ t.trk.h (r*(t.cols+1).toNat) (t.cols+1).toNat)) 0 (t.rows+1).toNat=oN (lst (hLn t) (t.rows+1).toNat):=jD (hLn t) _
 have e2:bK (fun r=>lnW iP (fO t.trk.g (r*t.cols.toNat) t.cols.toNat)) 0 t.rows.toNat=oN (lst (oLn t) t.rows.toNat):=jD (oLn t) _
 have e3:bK (fun i=>lnW iK [aC (t.trk.kg i),aC (t.trk.kd i),onW (t.trk.ko i)]) 0 t.kinds.length=oN (t.kinds.map fun x=>(iK,kLn x)):=by
  rw [<- zR (fun x=>(iK,kLn x)) t.kinds (0,0,false)];exact jD (fun i=>(iK,kLn (t.kinds.getD i (0,0,false)))) _
 have e4:bK (fun i=>lnW fK [aC (t.trk.lx i),aC (t.trk.ly i)]) 0 t.line.length=oN (t.line.map fun x=>(fK,pLn x)):=by
  rw [<- zR (fun x=>(fK,pLn x)) t.line (0,0)];exact jD (fun i=>(fK,pLn (t.line.getD i (0,0)))) _
 have e5:bK (fun i=>lnW eC (dD (t.trk.rx i) (t.trk.ry i) 0 (t.trk.rn i))) 0 t.rails.length=oN (t.rails.map fun x=>(eC,rLn x)):=by
  rw [<- zR (fun x=>(eC,rLn x)) t.rails []];exact jD (fun i=>(eC,rLn (t.rails.getD i []))) _
 have e6:bK (fun i=>lnW gA [aC (t.trk.ax i),aC (t.trk.ay i),aC (t.trk.bx i),aC (t.trk.sb i),gX (t.trk.sp i)]) 0 t.gates.length=oN (t.gates.map fun x=>(gA,gLn x)):=by
  rw [<- zR (fun x=>(gA,gLn x)) t.gates (0,0,0,0,false)];exact jD (fun i=>(gA,gLn (t.gates.getD i (0,0,0,0,false)))) _
 show (lnW rN [aJ t.rate]++lnW rK [aC t.cell]++lnW nM [aJ t.cols,aJ t.rows]++lnW j0 [aC t.corner.1,aC t.corner.2]++
  bK (fun r=>lnW gQ (fQ t.trk.h (r*(t.cols+1).toNat) (t.cols+1).toNat)) 0 (t.rows+1).toNat++
  bK (fun r=>lnW iP (fO t.trk.g (r*t.cols.toNat) t.cols.toNat)) 0 t.rows.toNat++
  bK (fun i=>lnW iK [aC (t.trk.kg i),aC (t.trk.kd i),onW (t.trk.ko i)]) 0 t.kinds.length)++
  (bK (fun i=>lnW fK [aC (t.trk.lx i),aC (t.trk.ly i)]) 0 t.line.length++
  bK (fun i=>lnW eC (dD (t.trk.rx i) (t.trk.ry i) 0 (t.trk.rn i))) 0 t.rails.length++
  bK (fun i=>lnW gA [aC (t.trk.ax i),aC (t.trk.ay i),aC (t.trk.bx i),aC (t.trk.sb i),gX (t.trk.sp i)]) 0 t.gates.length++
  lnW gW [aC t.start.1,aC t.start.2,aJ t.head]++lnW pB [aJ t.laps])=_
 rw [e1,e2,e3,e4,e5,e6]
 unfold pM BE CA
 simp only [oN,HB,List.append_assoc,List.append_nil]
end Go.Se
