import Derived.Test.YtghnfjfkjhbgdaaGreatDoorZD
import Derived.WalkKit
import Derived.LaidEql
import Derived.Stop.Asserts
import Derived.RowKitTokens
import GoSem.Extern.AbiNoEscape
import Derived.Lib.MakeNoZero
import Derived.Shelf.Strings.OnBuilder
namespace Go.Proofs.YtghnfjfkjhbgdaaGreatDoor
open Go.Se
set_option maxRecDepth 100000
theorem aMe(s:ByteArray)(n:Nat)(b:Bk)(all:Int)(hb:aR b)(ha:dH all)(hn:n<=1000)(h0:0<n):
  aE Tryz.prog 39 [.agg [.ptr 0 0],.str s,.int .i64 n] [some (.cells 130 (bkC all b))] (.ro n 1 (aG (lnV b s n))) [some (.cells 130 (bkC all (lnB all b s n)))] [0]:=by
 cases hc:iT b s n n with
 |false=>
  have hl:=H7 hb hc
  refine aS o1 3 fun _ _ K hK=> ?_
  rw [aIb]
  refine ⟨b,all,⟨rfl,hb,ha⟩,fun b' h'=> ?_⟩
  rw [hc]
  refine fun p hp=>Br.of (fun _=> ?_) fun c=>absurd (ae c) (by rw [hp,hl];omega)
  have e:lnV b s n=kE b:=by unfold lnV;rw [hc];rfl
  rw [e] at hK
  rw [hp,hl,h'];exact hK
 |true=>
  have e:lnV b s n=List.replicate n []:=by unfold lnV;rw [hc];rfl
  rw [e]
  refine u4 (T0:=130) (e:=9) (g:=fun _=>[SV.str (⟨#[]⟩:ByteArray)]) (st:=1) rfl (fun i hi=>⟨?_,rfl⟩) (aS o1 3 fun _ _ K hK=> ?_)
  ·show _=kQ ((List.replicate n []).getD i [])
   rw [bc,List.getElem?_replicate,if_pos hi];rfl
  ·rw [aIb]
   refine ⟨b,all,⟨rfl,hb,ha⟩,fun b' h'=> ?_⟩
   rw [hc]
   refine Br.of (fun _=>Br.of (fun _=> ?_) fun c=>absurd c (by simp;omega)) fun c=>by cases c
   rw [h',am];exact hK
def dLi :List SV->List (Option SB)->KC->Prop
 | [.agg [.ptr 0 0],.str s,.int .i64 n],[some (.cells 130 cs)],K=> ∃(b:Bk) (all:Int) (m:Nat),((cs=bkC all b/\n=(m:Int))/\aR b/\dH all/\0<m/\m<=1000)/\ ∀(p:List (List Int)) (b':Bk),xX all b s m p b'->K (.ro m 1 (aG p)) [some (.cells 130 (bkC all b'))] [0]
 |_,_,_=>False
theorem aGH(xs:List SV)(σ:List (Option SB)):Sat Tryz.prog 39 xs σ (dLi xs σ):=by
 intro K hK
 unfold dLi at hK
 split at hK
 case h_2=>exact hK.elim
 obtain ⟨b,all,m,⟨⟨rfl,rfl⟩,hb,ha,h0,hm⟩,hK⟩:=hK
 exact ⟨_,_,_,hK _ _ ⟨⟨rfl,L9 hb⟩,rfl⟩,aMe _ m b all hb ha hm h0⟩
noncomputable def o2 :bT Tryz.prog:=(o1).add 39 dLi aGH
def HQ :List (Nat×eI):=[(0,⟨[2,5,11,12,13],[0,1,2],[0,1,2,3,4,5,6,7,8],3,[(5,2)]⟩)]
noncomputable abbrev aAp :Env:=fG HQ (fun _=>0) o2 2
noncomputable abbrev aAB :Func:=Tryz.f77
abbrev Z2 :List Nat:=[1,1,0,1,0]
theorem RX(n:Nat)(g:List (List Int))(b:Bk)(all:Int)(K:KC):cL HQ (fun _=>0) o2 3 77 [.agg [.ptr 0 0],.ro n 1 (aG g)] [some (.cells 130 (bkC all b))] K=
 (Br (true&&(decide (0<=(↑n:Int))&&(decide ((↑n:Int)*8<=1099511627776)&&decide ((↑n:Int)<9223372036854775808)))) (∃q_,aV aAp (aA HQ 1) aAB Z2 0 1 K q_ {tmps:=[(2,SV.ptr 1 0),(5,SV.own 2 0 1 0),(11,SV.ro n 1 (aG g)),(12,SV.int .i64 (↑n:Int)),(13,SV.int .i64 0)],store:=[(0,some (SB.cells 130 (bkC all b))),(1,some (SB.cells 71 [SV.ptr 0 0])),(2,some (SB.row 22 1 0 fun (x:Nat)=>[SV.int .i64 0]))],nxt:=3,dirty:=[0,1,2,3,4,5,6,7,8],nt:=26}) (False)):=by kernel_rfl
def aEJ(n:Nat)(p:List (List Int))(all:Int)(b:Bk)(m:Nat)(g:Nat->List SV)(i:Int):St:=⟨[(2,.ptr 1 0),(5,.own 2 0 1 m),(11,.ro n 1 (aG p)),(12,.int .i64 n),(13,.int .i64 i)],[(0,some (.cells 130 (bkC all b))),(1,some (.cells 71 [.ptr 0 0])),(2,some (.row 22 1 m g))],3,[0,1,2,3,4,5,6,7,8],26⟩
theorem D1(n:Nat)(p:List (List Int))(all:Int)(b:Bk)(m:Nat)(g:Nat->List SV)(i:Nat)(K:Ex->St->Prop):aF aAp (aA HQ 1) aAB Z2 0 K (aEJ n p all b m g i)=
 (Br (decide ((↑i:Int)<(↑n:Int))) (Br (decide (0<=(↑i:Int))&&decide ((↑i:Int)<(↑n:Int))) (∃(e398:Bk),∃(e397:Int),((bkC all b)=bkC e397 e398)/\(∀(v395:Int),∀(b'394:Bk),∀(_:U3 e398 (bytesOf (p.getD (↑i:Int).toNat [])) v395 b'394),Br (decide ((m+1)*8<=1099511627776)&&decide (m+1<9223372036854775808)&&decide (m=m)) (K Ex.normal {tmps:=[(2,SV.ptr 1 0),(5,SV.own 2 0 1 (m+1)),(11,SV.ro n 1 (aG p)),(12,SV.int .i64 (↑n:Int)),(13,SV.int .i64 (IntKind.i64.wrap ((↑i:Int)+1)))],store:=[(0,some (SB.cells 130 (bkC e397 b'394))),(1,some (SB.cells 71 [SV.ptr 0 0])),(2,some (SB.row 22 1 (m+1) (bK m [SV.int .i64 v395] g)))],nxt:=3,dirty:=[0,1,2,3,4,5,6,7,8],nt:=26}) (False))) (False)) (K (Ex.exit 0) {tmps:=[(2,SV.ptr 1 0),(5,SV.own 2 0 1 m),(11,SV.ro n 1 (aG p)),(12,SV.int .i64 (↑n:Int)),(13,SV.int .i64 (↑i:Int))],store:=[(0,some (SB.cells 130 (bkC all b))),(1,some (SB.cells 71 [SV.ptr 0 0])),(2,some (SB.row 22 1 m g))],nxt:=3,dirty:=[0,1,2,3,4,5,6,7,8],nt:=26})):=by kernel_rfl
theorem SE(n:Nat)(p:List (List Int))(all:Int)(b:Bk)(m:Nat)(g:Nat->List SV)(i:Nat)(K:KC):aB aAp (aA HQ 1) aAB Z2 1 K (.exit 0) (aEJ n p all b m g i)=
 (K (SV.own 1 0 1 m) [some (SB.cells 130 (bkC all b)),some (SB.row 22 1 m g)] [0]):=by kernel_rfl
theorem aMo(n:Nat)(g:List (List Int))(b:Bk)(all:Int)(K:KC):run o2 3 40 [.agg [.ptr 0 0],.ro n 1 (aG g)] [some (.cells 130 (bkC all b))] K=
 (Br (true&&decide (0<(↑n:Int))) (∃(e399:Bk),∃(e398:Int),((bkC all b)=bkC e398 e399)/\(∀(v396:Int),∀(b'395:Bk),∀(_:U3 e399 (bytesOf (g.getD (Int.toNat 0) [])) v396 b'395),Br (true&&decide (1<(↑n:Int))) (∃(e392:Bk),∃(e391:Int),((bkC e398 b'395)=bkC e391 e392)/\(∀(v389:Int),∀(b'388:Bk),∀(_:U3 e392 (bytesOf (g.getD (Int.toNat 1) [])) v389 b'388),K (SV.agg [SV.int .i64 v396,SV.int .i64 v389]) [some (SB.cells 130 (bkC e391 b'388))] [0])) (False))) (False)):=by kernel_rfl
theorem aCl(p:List (List Int))(all:Int)(b0:Bk)(hp:p.length<=1000)(K:KC)(hK:K (.own 1 0 1 p.length) [some (.cells 130 (bkC all (j9 b0 p).2)),some (.row 22 1 p.length (aU cV 0 (j9 b0 p).1))] [0]):
  cL HQ (fun _=>0) o2 3 77 [.agg [.ptr 0 0],.ro p.length 1 (aG p)] [some (.cells 130 (bkC all b0))] K:=by
 rw [RX]
 refine Br.of (fun _=>⟨p.length+1, ?_⟩) fun c=>absurd c (by simp;omega)
 show iter (aF aAp (aA HQ 1) aAB Z2 0) (aB aAp (aA HQ 1) aAB Z2 1 K) (p.length+1) (aEJ p.length p all (j9 b0 (p.take 0)).2 (j9 b0 (p.take 0)).1.length (aU cV 0 (j9 b0 (p.take 0)).1) ((0:Nat):Int))
 refine j8 (fun i:Nat=>aEJ p.length p all (j9 b0 (p.take i)).2 (j9 b0 (p.take i)).1.length (aU cV 0 (j9 b0 (p.take i)).1) (i:Int)) p.length (fun _=>True) (fun i hi _ X hX=> ?_) (fun _ X=> ?_) trivial
 ·have hX:=hX trivial
  have hl:=wR b0 (p.take i)
  rw [du] at hl
  rw [UK b0 hi] at hX
  simp only [vC,<- DC,au,gi] at hX
  rw [D1,aK hi (by omega),am]
  refine Br.of (fun _=>Br.of (fun _=>⟨_,all,rfl,fun v b' hv=>Br.of (fun _=> ?_) fun c=>absurd c (by simp;omega)⟩) fun c=>eA hi c) fun c=>iI hi c
  rw [hv.1,hv.2];exact hX
 ·rw [D1,gz]
  refine Br.of (fun c=>g7 c) fun _=> ?_
  show aB aAp (aA HQ 1) aAB Z2 1 K (.exit 0) (aEJ p.length p all (j9 b0 p).2 (j9 b0 p).1.length (aU cV 0 (j9 b0 p).1) (p.length:Nat))
  rw [SE,wR];exact hK
def dNs :List SV->List (Option SB)->KC->Prop
 | [.agg [.ptr 0 0],.ro n 1 g],[some (.cells 130 cs)],K=> ∃(p:List (List Int)) (b:Bk) (all:Int),((cs=bkC all b/\n=p.length/\g=aG p)/\p.length<=1000)/\ ∀(L:List Int) (b':Bk),aLa b p L b'->K (.ro n 1 (aU cV 0 L)) [some (.cells 130 (bkC all b'))] [0]
 |_,_,_=>False
theorem aGy(xs:List SV)(σ:List (Option SB)):Sat Tryz.prog 77 xs σ (dNs xs σ):=by
 intro K hK
 unfold dNs at hK
 split at hK
 case h_2=>exact hK.elim
 obtain ⟨p,b,all,⟨⟨rfl,rfl,rfl⟩,hp⟩,hK⟩:=hK
 refine ⟨_,_,_,hK _ _ ⟨⟨rfl,wR b p⟩,rfl⟩,u4 (T0:=130) (e:=22) rfl (fun i _=>⟨rfl,rfl⟩) (eF HQ (fun _=>0) o2 3 (fun q h=> ?_) fun _ _ K hK=>aCl p all b hp K (hK [0] fun _ h=>h))⟩
 show q<1
 obtain rfl:=aq.1 h;exact Nat.one_pos
def dPl :List SV->List (Option SB)->KC->Prop
 | [.agg [.ptr 0 0],.ro n 1 g],[some (.cells 130 cs)],K=> ∃(p:List (List Int)) (b:Bk) (all:Int),(cs=bkC all b/\g=aG p/\2<=n)/\ ∀(x y:Int) (b':Bk),OO b p x y b'->K (.agg [.int .i64 x,.int .i64 y]) [some (.cells 130 (bkC all b'))] [0]
 |_,_,_=>False
theorem aG1(xs:List SV)(σ:List (Option SB)):Sat Tryz.prog 40 xs σ (dPl xs σ):=by
 intro K hK
 unfold dPl at hK
 split at hK
 case h_2=>exact hK.elim
 obtain ⟨p,b,all,⟨rfl,rfl,hn⟩,hK⟩:=hK
 refine ⟨_,_,_,hK _ _ _ ⟨rfl,rfl⟩,aS o2 3 fun _ _ K hK=> ?_⟩
 rw [aMo]
 refine Br.of (fun _=>⟨b,all,rfl,fun v b1 h1=>Br.of (fun _=>⟨b1,all,rfl,fun u b2 h2=> ?_⟩) fun c=>absurd c (by simp;omega)⟩) fun c=>absurd c (by simp;omega)
 rw [h2.1,h2.2,h1.1,h1.2];exact hK
noncomputable def o3 :bT Tryz.prog:=((o2).add 77 dNs aGy).add 40 dPl aG1
theorem aLD(b:Bk)(all:Int)(K:KC):run o3 3 79 [.agg [.ptr 0 0]] [some (.cells 130 (bkC all b))] K=
 (∃(e400:Bk),∃(e399:Int),∃(e398:Nat),(((bkC all b)=bkC e399 e400/\3=(↑e398:Int))/\aR e400/\dH e399/\0<e398/\e398<=1000)/\(∀(p396:List (List Int)),∀(b'395:Bk),∀(_:xX e399 e400 (⟨#[107,105,110,100]⟩:ByteArray) e398 p396 b'395),Br (true&&decide (0<(↑e398:Int))) (∃(e392:Bk),∃(e391:Int),((bkC e399 b'395)=bkC e391 e392)/\(∀(v389:Int),∀(b'388:Bk),∀(_:U3 e392 (bytesOf (p396.getD (Int.toNat 0) [])) v389 b'388),Br (true&&decide (1<(↑e398:Int))) (∃(e385:Bk),∃(e384:Int),((bkC e391 b'388)=bkC e384 e385)/\(∀(v382:Int),∀(b'381:Bk),∀(_:U3 e385 (bytesOf (p396.getD (Int.toNat 1) [])) v382 b'381),Br (true&&decide (2<(↑e398:Int))) (∃(e378:Bk),∃(e377:Int),((bkC e384 b'381)=bkC e377 e378)/\(∀(v375:Int),∀(b'374:Bk),∀(_:aIW e378 (bytesOf (p396.getD (Int.toNat 2) [])) (⟨#[111,110]⟩:ByteArray) (⟨#[111,102,102]⟩:ByteArray) v375 b'374),K (SV.agg [SV.int .i64 v389,SV.int .i64 v382,SV.bool (v375==1)]) [some (SB.cells 130 (bkC e377 b'374))] [0])) (False))) (False))) (False))):=by kernel_rfl
theorem aMy(b:Bk)(all:Int)(K:KC):run o3 3 34 [.agg [.ptr 0 0]] [some (.cells 130 (bkC all b))] K=
 (∃(e400:Bk),∃(e399:Int),∃(e398:Nat),(((bkC all b)=bkC e399 e400/\2=(↑e398:Int))/\aR e400/\dH e399/\0<e398/\e398<=1000)/\(∀(p396:List (List Int)),∀(b'395:Bk),∀(_:xX e399 e400 (⟨#[112,111,105,110,116]⟩:ByteArray) e398 p396 b'395),∃(e393:List (List Int)),∃(e392:Bk),∃(e391:Int),((bkC e399 b'395)=bkC e391 e392/\aG p396=aG e393/\2<=e398)/\(∀(x389:Int),∀(y388:Int),∀(b'387:Bk),∀(_:OO e392 e393 x389 y388 b'387),K (SV.agg [SV.int .i64 x389,SV.int .i64 y388]) [some (SB.cells 130 (bkC e391 b'387))] [0]))):=by kernel_rfl
theorem aLQ(b:Bk)(all:Int)(K:KC):run o3 3 38 [.agg [.ptr 0 0]] [some (.cells 130 (bkC all b))] K=
 (∃(e400:Bk),∃(e399:Int),∃(e398:Nat),(((bkC all b)=bkC e399 e400/\5=(↑e398:Int))/\aR e400/\dH e399/\0<e398/\e398<=1000)/\(∀(p396:List (List Int)),∀(b'395:Bk),∀(_:xX e399 e400 (⟨#[103,97,116,101]⟩:ByteArray) e398 p396 b'395),∃(e393:List (List Int)),∃(e392:Bk),∃(e391:Int),((bkC e399 b'395)=bkC e391 e392/\aG p396=aG e393/\2<=e398)/\(∀(x389:Int),∀(y388:Int),∀(b'387:Bk),∀(_:OO e392 e393 x389 y388 b'387),Br (true&&(decide (2<=(↑e398:Int))&&decide ((↑e398:Int)<=(↑e398:Int)))) (∃(e384:List (List Int)),∃(e383:Bk),∃(e382:Int),((bkC e391 b'387)=bkC e382 e383/\(fun (i:Nat)=>aG p396 (i+2))=aG e384/\2<=(↑e398:Int).toNat - 2)/\(∀(x380:Int),∀(y379:Int),∀(b'378:Bk),∀(_:OO e383 e384 x380 y379 b'378),Br (true&&decide (4<(↑e398:Int))) (∃(e375:Bk),∃(e374:Int),((bkC e382 b'378)=bkC e374 e375)/\(∀(v372:Int),∀(b'371:Bk),∀(_:aIW e375 (bytesOf (p396.getD (Int.toNat 4) [])) (⟨#[112,108,97,105,110]⟩:ByteArray) (⟨#[115,112,108,105,116]⟩:ByteArray) v372 b'371),K (SV.agg [SV.int .i64 x389,SV.int .i64 y388,SV.int .i64 x380,SV.int .i64 y379,SV.bool (v372==1)]) [some (SB.cells 130 (bkC e374 b'371))] [0])) (False))) (False)))):=by kernel_rfl
def CN{α:Type}(V:α->SV)(O:Int->Bk->α->Bk->Prop):List SV->List (Option SB)->KC->Prop
 | [.agg [.ptr 0 0]],[some (.cells 130 cs)],K=> ∃(b:Bk) (all:Int),(cs=bkC all b/\aR b/\dH all)/\ ∀(x:α) (b':Bk),O all b x b'->K (V x) [some (.cells 130 (bkC all b'))] [0]
 |_,_,_=>False
theorem vM {α:Type} {V:α->SV} {O:Int->Bk->α->Bk->Prop} {k:FuncId} {F:Int->Bk->α×Bk} (hO: ∀all b,O all b (F all b).1 (F all b).2) (h: ∀b all,aR b->dH all->aE Tryz.prog k [.agg [.ptr 0 0]] [some (.cells 130 (bkC all b))] (V (F all b).1) [some (.cells 130 (bkC all (F all b).2))] [0])
  (xs:List SV) (σ:List (Option SB)):Sat Tryz.prog k xs σ (CN V O xs σ):=by
 intro K hK
 unfold CN at hK
 split at hK
 case h_2=>exact hK.elim
 obtain ⟨b,all,⟨rfl,hb,ha⟩,hK⟩:=hK
 exact ⟨_,_,_,hK _ _ (hO all b),h b all hb ha⟩
def kdV(x:Int×Int×Bool):SV:= .agg [.int .i64 x.1,.int .i64 x.2.1,.bool x.2.2]
def ptV(x:Int×Int):SV:= .agg [.int .i64 x.1,.int .i64 x.2]
def gtV(x:Int×Int×Int×Int×Bool):SV:= .agg [.int .i64 x.1,.int .i64 x.2.1,.int .i64 x.2.2.1,.int .i64 x.2.2.2.1,.bool x.2.2.2.2]
theorem aLO(b:Bk)(all:Int)(hb:aR b)(ha:dH all):aE Tryz.prog 79 [.agg [.ptr 0 0]] [some (.cells 130 (bkC all b))] (kdV (j0 all b).1) [some (.cells 130 (bkC all (j0 all b).2))] [0]:=
 aS o3 3 fun _ _ K hK=>by
  rw [aLD]
  refine ⟨b,all,3,⟨⟨rfl,rfl⟩,hb,ha,by decide,by decide⟩,fun p b1 h1=>⟨b1,all,rfl,fun v2 b2 h2=>⟨b2,all,rfl,fun v3 b3 h3=>⟨b3,all,rfl,fun v4 b4 h4=> ?_⟩⟩⟩⟩
  obtain ⟨⟨rfl,_⟩,rfl⟩:=h1
  obtain ⟨rfl,rfl⟩:=h2
  obtain ⟨rfl,rfl⟩:=h3
  obtain ⟨rfl,rfl⟩:=h4
  exact hK
theorem aMc(b:Bk)(all:Int)(hb:aR b)(ha:dH all):aE Tryz.prog 34 [.agg [.ptr 0 0]] [some (.cells 130 (bkC all b))] (ptV (iJ all b).1) [some (.cells 130 (bkC all (iJ all b).2))] [0]:=
 aS o3 3 fun _ _ K hK=>by
  rw [aMy]
  refine ⟨b,all,2,⟨⟨rfl,rfl⟩,hb,ha,by decide,by decide⟩,fun p b1 h1=>⟨p,b1,all,⟨rfl,rfl,by decide⟩,fun x y b2 h2=> ?_⟩⟩
  obtain ⟨⟨rfl,_⟩,rfl⟩:=h1
  obtain ⟨h2,rfl⟩:=h2
  cases h2
  exact hK
theorem aLF(b:Bk)(all:Int)(hb:aR b)(ha:dH all):aE Tryz.prog 38 [.agg [.ptr 0 0]] [some (.cells 130 (bkC all b))] (gtV (kU all b).1) [some (.cells 130 (bkC all (kU all b).2))] [0]:=
 aS o3 3 fun _ _ K hK=>by
  rw [aLQ]
  refine ⟨b,all,5,⟨⟨rfl,rfl⟩,hb,ha,by decide,by decide⟩,fun p b1 h1=>⟨p,b1,all,⟨rfl,rfl,by decide⟩,fun x y b2 h2=>⟨p.drop 2,b2,all,⟨rfl,xY p 2,by decide⟩,fun z u b3 h3=>⟨b3,all,rfl,fun v b4 h4=> ?_⟩⟩⟩⟩
  obtain ⟨⟨rfl,_⟩,rfl⟩:=h1
  obtain ⟨h2,rfl⟩:=h2
  obtain ⟨h3,rfl⟩:=h3
  obtain ⟨rfl,rfl⟩:=h4
  rw [EB] at h3|-
  cases h2;cases h3
  exact hK
theorem aHl(xs:List SV)(σ:List (Option SB)):Sat Tryz.prog 79 xs σ (CN kdV (isF j0) xs σ):=vM (F:=j0) (fun _ _=>rfl) aLO xs σ
theorem aHG(xs:List SV)(σ:List (Option SB)):Sat Tryz.prog 34 xs σ (CN ptV (isF iJ) xs σ):=vM (F:=iJ) (fun _ _=>rfl) aMc xs σ
theorem aFI(xs:List SV)(σ:List (Option SB)):Sat Tryz.prog 38 xs σ (CN gtV (isF kU) xs σ):=vM (F:=kU) (fun _ _=>rfl) aLF xs σ
def rM :List (Nat×eI):=[(0,⟨[1,3,4,5],[0,1,2],[0,1,2,3,4,5,6,7,8],3,[(4,2)]⟩)]
noncomputable abbrev vD :Env:=fG rM (fun _=>0) o3 2
noncomputable abbrev vZ :Func:=Tryz.f36
abbrev vU :List Nat:=[1,1,1,1,0,1,0]
def CM(V:SV)(all:Int)(b:Bk)(o:SV)(r:Option SB)(i:Int):St:=⟨[(1,.ptr 1 0),(3,V),(4,o),(5,.int .i64 i)],[(0,some (.cells 130 (bkC all b))),(1,some (.cells 71 [.ptr 0 0])),(2,r)],3,[0,1,2,3,4,5,6,7,8],31⟩
theorem XU(b:Bk)(all:Int)(K:KC):cL rM (fun _=>0) o3 3 36 [.agg [.ptr 0 0]] [some (.cells 130 (bkC all b))] K=
 (∃(e400:Bk),∃(e399:Int),((bkC all b)=bkC e399 e400/\aR e400/\0<=e399/\e399<=1048577)/\(∀(b'397:Bk),∀(_:isB b'397 (i7 e399 e400 (⟨#[114,97,105,108]⟩:ByteArray) 2 128)),Br (iT e400 (⟨#[114,97,105,108]⟩:ByteArray) 2 128) (∃q_,aV vD (aA rM 1) vZ vU 0 1 K q_ {tmps:=[(1,SV.ptr 1 0),(3,SV.nils),(4,SV.nils),(5,SV.int .i64 0)],store:=[(0,some (SB.cells 130 (bkC e399 b'397))),(1,some (SB.cells 71 [SV.ptr 0 0])),(2,none)],nxt:=3,dirty:=[0,1,2,3,4,5,6,7,8],nt:=31}) (∀(p394:List (List Int)),∀(_:isW p394 (kE e400)),Br ((↑p394.length:Int).tmod 2==1) (∃(e391:Bk),∃(e390:Int),((bkC e399 b'397)=bkC e390 e391)/\(∀(b'388:Bk),∀(_:isB b'388 (yO e391)),K SV.nils [some (SB.cells 130 (bkC e390 b'388))] [0])) (∃q_,aV vD (aA rM 1) vZ vU 0 1 K q_ {tmps:=[(1,SV.ptr 1 0),(3,SV.ro p394.length 1 (aG p394)),(4,SV.nils),(5,SV.int .i64 0)],store:=[(0,some (SB.cells 130 (bkC e399 b'397))),(1,some (SB.cells 71 [SV.ptr 0 0])),(2,none)],nxt:=3,dirty:=[0,1,2,3,4,5,6,7,8],nt:=31})))):=by kernel_rfl
theorem aKi(b:Bk)(all:Int)(K:Ex->St->Prop):aF vD (aA rM 1) vZ vU 0 K (CM .nils all b .nils none 0)=
 (K (Ex.exit 0) {tmps:=[(1,SV.ptr 1 0),(3,SV.nils),(4,SV.nils),(5,SV.int .i64 0)],store:=[(0,some (SB.cells 130 (bkC all b))),(1,some (SB.cells 71 [SV.ptr 0 0])),(2,none)],nxt:=3,dirty:=[0,1,2,3,4,5,6,7,8],nt:=31}):=by kernel_rfl
theorem aLe(b:Bk)(all:Int)(K:KC):aB vD (aA rM 1) vZ vU 1 K (.exit 0) (CM .nils all b .nils none 0)=
 (K SV.nils [some (SB.cells 130 (bkC all b))] [0]):=by kernel_rfl
theorem aDr(n:Nat)(p:List (List Int))(b:Bk)(all:Int)(i:Nat)(K:Ex->St->Prop):aF vD (aA rM 1) vZ vU 0 K (CM (.ro n 1 (aG p)) all b .nils none i)=
 (Br (decide ((↑i:Int)<(↑n:Int))) (Br (decide (0<=(↑i:Int))&&(decide ((↑i:Int)<=(↑n:Int))&&decide ((↑n:Int)<=(↑n:Int)))) (∃(e398:List (List Int)),∃(e397:Bk),∃(e396:Int),((bkC all b)=bkC e396 e397/\(fun (i_1:Nat)=>aG p (i_1+(↑i:Int).toNat))=aG e398/\2<=(↑n:Int).toNat - (↑i:Int).toNat)/\(∀(x394:Int),∀(y393:Int),∀(b'392:Bk),∀(_:OO e397 e398 x394 y393 b'392),K Ex.normal {tmps:=[(1,SV.ptr 1 0),(3,SV.ro n 1 (aG p)),(4,SV.own 2 0 2 1),(5,SV.int .i64 (IntKind.i64.wrap ((↑i:Int)+2)))],store:=[(0,some (SB.cells 130 (bkC e396 b'392))),(1,some (SB.cells 71 [SV.ptr 0 0])),(2,some (SB.row 24 2 1 fun (i:Nat)=>cut [SV.int .i64 x394,SV.int .i64 y393] (i*2) 2))],nxt:=3,dirty:=[0,1,2,3,4,5,6,7,8],nt:=31})) (False)) (K (Ex.exit 0) {tmps:=[(1,SV.ptr 1 0),(3,SV.ro n 1 (aG p)),(4,SV.nils),(5,SV.int .i64 (↑i:Int))],store:=[(0,some (SB.cells 130 (bkC all b))),(1,some (SB.cells 71 [SV.ptr 0 0])),(2,none)],nxt:=3,dirty:=[0,1,2,3,4,5,6,7,8],nt:=31})):=by kernel_rfl
theorem aD2(n:Nat)(p:List (List Int))(b:Bk)(all:Int)(m:Nat)(g:Nat->List SV)(i:Nat)(K:Ex->St->Prop):aF vD (aA rM 1) vZ vU 0 K (CM (.ro n 1 (aG p)) all b (.own 2 0 2 m) (some (.row 24 2 m g)) i)=
 (Br (decide ((↑i:Int)<(↑n:Int))) (Br (decide (0<=(↑i:Int))&&(decide ((↑i:Int)<=(↑n:Int))&&decide ((↑n:Int)<=(↑n:Int)))) (∃(e398:List (List Int)),∃(e397:Bk),∃(e396:Int),((bkC all b)=bkC e396 e397/\(fun (i_1:Nat)=>aG p (i_1+(↑i:Int).toNat))=aG e398/\2<=(↑n:Int).toNat - (↑i:Int).toNat)/\(∀(x394:Int),∀(y393:Int),∀(b'392:Bk),∀(_:OO e397 e398 x394 y393 b'392),Br (decide ((m+1)*16<=1099511627776)&&decide (m+1<9223372036854775808)&&decide (m=m)) (K Ex.normal {tmps:=[(1,SV.ptr 1 0),(3,SV.ro n 1 (aG p)),(4,SV.own 2 0 2 (m+1)),(5,SV.int .i64 (IntKind.i64.wrap ((↑i:Int)+2)))],store:=[(0,some (SB.cells 130 (bkC e396 b'392))),(1,some (SB.cells 71 [SV.ptr 0 0])),(2,some (SB.row 24 2 (m+1) (bK m [SV.int .i64 x394,SV.int .i64 y393] g)))],nxt:=3,dirty:=[0,1,2,3,4,5,6,7,8],nt:=31}) (False))) (False)) (K (Ex.exit 0) {tmps:=[(1,SV.ptr 1 0),(3,SV.ro n 1 (aG p)),(4,SV.own 2 0 2 m),(5,SV.int .i64 (↑i:Int))],store:=[(0,some (SB.cells 130 (bkC all b))),(1,some (SB.cells 71 [SV.ptr 0 0])),(2,some (SB.row 24 2 m g))],nxt:=3,dirty:=[0,1,2,3,4,5,6,7,8],nt:=31})):=by kernel_rfl
theorem aIP(n:Nat)(p:List (List Int))(b:Bk)(all:Int)(i:Nat)(K:KC):aB vD (aA rM 1) vZ vU 1 K (.exit 0) (CM (.ro n 1 (aG p)) all b .nils none i)=
 (K SV.nils [some (SB.cells 130 (bkC all b))] [0]):=by kernel_rfl
theorem aJX(n:Nat)(p:List (List Int))(b:Bk)(all:Int)(m:Nat)(g:Nat->List SV)(i:Nat)(K:KC):aB vD (aA rM 1) vZ vU 1 K (.exit 0) (CM (.ro n 1 (aG p)) all b (.own 2 0 2 m) (some (.row 24 2 m g)) i)=
 (K (SV.own 1 0 2 m) [some (SB.cells 130 (bkC all b)),some (SB.row 24 2 m g)] [0]):=by kernel_rfl
theorem aGf(b0:Bk)(all:Int)(hb:aR b0)(ha:dH all)(K:KC)(hK:qC 24 2 plL (iF all b0).1 (.cells 130 (bkC all (iF all b0).2)) K):
  cL rM (fun _=>0) o3 3 36 [.agg [.ptr 0 0]] [some (.cells 130 (bkC all b0))] K:=by
 rw [XU]
 refine ⟨b0,all,⟨rfl,hb,ha⟩,fun b1 h1=> ?_⟩
 rw [show b1=i7 all b0 (ba fP) 2 128 from h1]
 clear h1
 have e:(⟨#[114,97,105,108]⟩:ByteArray)=ba fP:=rfl
 rw [e]
 unfold iF at hK
 refine Br.of (fun c=> ?_) fun c p hp=> ?_
 ·simp only [c,ar,bw,Nat.zero_mod] at hK
  have hK:K .nils [some (.cells 130 (bkC all (i7 all b0 (ba fP) 2 128)))] [0]:=hK.1 rfl
  refine ⟨1, ?_⟩
  show aF vD (aA rM 1) vZ vU 0 (gM (iter (aF vD (aA rM 1) vZ vU 0) (aB vD (aA rM 1) vZ vU 1 K) 0) (aB vD (aA rM 1) vZ vU 1 K)) (CM .nils all (i7 all b0 (ba fP) 2 128) .nils none 0)
  rw [aKi]
  show aB vD (aA rM 1) vZ vU 1 K (.exit 0) (CM .nils all (i7 all b0 (ba fP) 2 128) .nils none 0)
  rw [aLe];exact hK
 ·obtain rfl:p=kE b0:=hp
  simp only [c,ap] at hK
  have hrg:=JS hb c
  generalize kE b0=p at*
  generalize i7 all b0 (ba fP) 2 128=b at*
  have hmod:((p.length:Int).tmod 2==1)=(p.length%2==1):=by
   rw [show (p.length:Int).tmod 2=((p.length%2:Nat):Int) from by rw [eo (by omega)];omega]
   rw [fv,ci,ci];omega
  rw [hmod]
  refine Br.of (fun c2=> ?_) fun c2=> ?_
  ·rw [c2] at hK
   exact ⟨b,all,rfl,fun b' h'=>by rw [show b'=yO b from h'];exact hK.1 rfl⟩
  ·rw [c2] at hK
   simp only [ap] at hK
   have hev:p.length%2=0:=by
    have:p.length%2≠1:=fun e=>by rw [e] at c2;cases c2
    omega
   refine ⟨p.length/2+1, ?_⟩
   show iter (aF vD (aA rM 1) vZ vU 0) (aB vD (aA rM 1) vZ vU 1 K) (p.length/2+1) (CM (.ro p.length 1 (aG p)) all (rI b p 0).2 .nils none ((2*0:Nat):Int))
   refine H3 (e:=24) (st:=2) (id:=2) (f:=plL) (fun i=>(rI b p i).1) (fun o r i=>CM (.ro p.length 1 (aG p)) all (rI b p i).2 o r ((2*i:Nat):Int)) (p.length/2) rfl (fun i o r hi ht X hX=> ?_) fun o r ht X=> ?_
   ·have hl:=GG b p i
    have hi2:2*i<p.length:=by omega
    have hw:IntKind.i64.wrap (((2*i:Nat):Int)+2)=((2*(i+1):Nat):Int):=by rw [fK];omega
    rcases ht with ⟨h0,rfl,rfl⟩|⟨g,hne,rfl,rfl,hg⟩
    ·rw [aDr,hw]
     refine Br.of (fun _=>Br.of (fun _=>⟨p.drop (2*i),_,all,⟨rfl,by rw [am];exact xY p _,by rw [am,am];omega⟩,fun x y b' hv=> ?_⟩) fun c=>absurd c (by simp;omega)) fun c=>iI hi2 c
     obtain ⟨h1,rfl⟩:=hv
     rw [EB] at h1|-
     refine hX _ _ ?_
     show bU _ 2 2 plL ((rI b p i).1++[(plP (rI b p i).2 p (2*i)).1]) _ _
     rw [h0,<- h1]
     exact eT rfl rfl
    ·rw [aD2,hw]
     refine Br.of (fun _=>Br.of (fun _=>⟨p.drop (2*i),_,all,⟨rfl,by rw [am];exact xY p _,by rw [am,am];omega⟩,fun x y b' hv=>Br.of (fun _=> ?_) fun c=>absurd c (by simp;omega)⟩) fun c=>absurd c (by simp;omega)) fun c=>iI hi2 c
     obtain ⟨h1,rfl⟩:=hv
     rw [EB] at h1|-
     refine hX _ _ ?_
     show bU _ 2 2 plL ((rI b p i).1++[(plP (rI b p i).2 p (2*i)).1]) _ _
     rw [<- h1]
     exact fQ rfl rfl hg
   ·have he:2*(p.length/2)=p.length:=by omega
    rw [he]
    refine sJ ht hK (fun h1 h2 hK=> ?_) fun m g h1 h2 hK=> ?_
    ·subst h1;subst h2
     rw [aDr]
     refine Br.of (fun c=>g7 c) fun _=> ?_
     show aB vD (aA rM 1) vZ vU 1 K (.exit 0) (CM (.ro p.length 1 (aG p)) all (rI b p (p.length/2)).2 .nils none (p.length:Nat))
     rw [aIP];exact hK
    ·subst h1;subst h2
     rw [aD2]
     refine Br.of (fun c=>g7 c) fun _=> ?_
     show aB vD (aA rM 1) vZ vU 1 K (.exit 0) (CM (.ro p.length 1 (aG p)) all (rI b p (p.length/2)).2 (.own 2 0 2 m) (some (.row 24 2 m g)) (p.length:Nat))
     rw [aJX];exact hK
def rlV(x:List (Int×Int)):SV:= .ro x.length 2 (aU plL (0,0) x)
theorem BK(b:Bk)(all:Int):ids.idsL (bkC all b)=[]:=rfl
theorem aK6(b:Bk)(all:Int)(hb:aR b)(ha:dH all):aE Tryz.prog 36 [.agg [.ptr 0 0]] [some (.cells 130 (bkC all b))] (rlV (iF all b).1) [some (.cells 130 (bkC all (iF all b).2))] [0]:=
 mO (BK _ _) (fun _=>rfl) fun K hK=>bS (env:=tab.env o3 (fun _=>0) (fun _=>false)) ⟨tab.htt,o3.ok⟩ tab.mixed (fun n=>aY n rM) tab.hft 3 _ _ _ K (aGf b all hb ha K hK)
theorem aHb(xs:List SV)(σ:List (Option SB)):Sat Tryz.prog 36 xs σ (CN rlV (isF iF) xs σ):=vM (F:=iF) (fun _ _=>rfl) aK6 xs σ
noncomputable def o4 :bT Tryz.prog:=((((o3).add 79 (CN kdV (isF j0)) aHl).add 34 (CN ptV (isF iJ)) aHG).add 38 (CN gtV (isF kU)) aFI).add 36 (CN rlV (isF iF)) aHb
def myR :List (Nat×eI):=[(0,⟨[1,2,3,4,9],[0,1,2],[0,1,2,3,4,5,6,7,8],3,[(9,2)]⟩)]
noncomputable abbrev myE :Env:=fG myR (fun _=>0) o4 2
abbrev myP :List Nat:=[1,1,0,0]
def myS(f:FuncId)(w:ByteArray)(most:Nat)(all:Int)(b:Bk)(o:SV)(r:Option SB):St:=⟨[(1,.str w),(2,.int .i64 most),(3,.fn (.func f) [.agg [.ptr 0 0]] []),(4,.ptr 1 0),(9,o)],[(0,some (.cells 130 (bkC all b))),(1,some (.cells 71 [.ptr 0 0])),(2,r)],3,[0,1,2,3,4,5,6,7,8],26⟩
def dMy{α:Type}(f:FuncId)(st:Nat)(R:α->List SV)(d0:α)(F:Int->Bk->α×Bk):List SV->List (Option SB)->KC->Prop
 | [.agg [.ptr 0 0],.str w,.int .i64 most,.fn (.func f') [.agg [.ptr 0 0]] []],[some (.cells 130 cs)],K=> ∃(b:Bk) (all:Int) (m:Nat),((cs=bkC all b/\most=(m:Int)/\f'=f)/\aR b/\dH all/\m<=1000)/\ ∀(L:List α) (b':Bk),VG w (F all) m b L b'->K (.ro L.length st (aU R d0 L)) [some (.cells 130 (bkC all b'))] [0]
 |_,_,_=>False
theorem C6 {α:Type} {f:FuncId} {st:Nat} {R:α->List SV} {d0:α} {F:Int->Bk->α×Bk} {k:FuncId} (h: ∀w m b all,aR b->dH all->m<=1000->aE Tryz.prog k [.agg [.ptr 0 0],.str w,.int .i64 (m:Nat),.fn (.func f) [.agg [.ptr 0 0]] []] [some (.cells 130 (bkC all b))] (.ro (dW w (F all) m ([],b)).1.length st (aU R d0 (dW w (F all) m ([],b)).1)) [some (.cells 130 (bkC all (dW w (F all) m ([],b)).2))] [0])
  (xs:List SV) (σ:List (Option SB)):Sat Tryz.prog k xs σ (dMy f st R d0 F xs σ):=by
 intro K hK
 unfold dMy at hK
 split at hK
 case h_2=>exact hK.elim
 obtain ⟨b,all,m,⟨⟨rfl,rfl,rfl⟩,hb,ha,hm⟩,hK⟩:=hK
 exact ⟨_,_,_,hK _ _ rfl,h _ m b all hb ha hm⟩
noncomputable abbrev R0 :Func:=Tryz.f78
abbrev AM(w:ByteArray)(most:Nat)(all:Int)(b:Bk)(o:SV)(r:Option SB):St:=myS 79 w most all b o r
theorem aBd(w:ByteArray)(most:Nat)(all:Int)(b:Bk)(K:KC):cL myR (fun _=>0) o4 3 78 [.agg [.ptr 0 0],.str w,.int .i64 (most:Nat),.fn (.func 79) [.agg [.ptr 0 0]] []] [some (.cells 130 (bkC all b))] K=
 (∃q_,aV myE (aA myR 1) R0 myP 0 1 K q_ (AM w most all b (SV.nils) (none))):=by kernel_rfl
theorem aLl(w:ByteArray)(most:Nat)(all:Int)(b:Bk)(K:Ex->St->Prop):aF myE (aA myR 1) R0 myP 0 K (AM w most all b .nils none)=
 (Br (decide (0<(↑most:Int))) (∃(e399:Bk),∃(e398:Int),((bkC all b)=bkC e398 e399/\aR e399)/\(Br (iE e399 w) (∃(e395:Bk),∃(e394:Int),((bkC e398 e399)=bkC e394 e395/\aR e395/\dH e394)/\(∀(x392:Int×Int×Bool),∀(b'391:Bk),∀(_:isF j0 e394 e395 x392 b'391),K Ex.normal (AM w most e394 b'391 (SV.own 2 0 3 1) (some (SB.row 107 3 1 fun (i:Nat)=>cut [SV.int .i64 x392.fst,SV.int .i64 x392.snd.fst,SV.bool x392.snd.snd] (i*3) 3))))) (K (Ex.exit 0) (AM w most e398 e399 (SV.nils) (none))))) (K (Ex.exit 0) (AM w most all b (SV.nils) (none)))):=by kernel_rfl
theorem aJw(w:ByteArray)(most:Nat)(all:Int)(b:Bk)(n:Nat)(g:Nat->List SV)(K:Ex->St->Prop):aF myE (aA myR 1) R0 myP 0 K (AM w most all b (.own 2 0 3 n) (some (.row 107 3 n g)))=
 (Br (decide ((↑n:Int)<(↑most:Int))) (∃(e399:Bk),∃(e398:Int),((bkC all b)=bkC e398 e399/\aR e399)/\(Br (iE e399 w) (∃(e395:Bk),∃(e394:Int),((bkC e398 e399)=bkC e394 e395/\aR e395/\dH e394)/\(∀(x392:Int×Int×Bool),∀(b'391:Bk),∀(_:isF j0 e394 e395 x392 b'391),Br (decide ((n+1)*24<=1099511627776)&&decide (n+1<9223372036854775808)&&decide (n=n)) (K Ex.normal (AM w most e394 b'391 (SV.own 2 0 3 (n+1)) (some (SB.row 107 3 (n+1) (bK n [SV.int .i64 x392.fst,SV.int .i64 x392.snd.fst,SV.bool x392.snd.snd] g))))) (False))) (K (Ex.exit 0) (AM w most e398 e399 (SV.own 2 0 3 n) (some (SB.row 107 3 n g)))))) (K (Ex.exit 0) (AM w most all b (SV.own 2 0 3 n) (some (SB.row 107 3 n g))))):=by kernel_rfl
theorem aKm(w:ByteArray)(most:Nat)(all:Int)(b:Bk)(K:KC):aB myE (aA myR 1) R0 myP 1 K (.exit 0) (AM w most all b .nils none)=
 (K SV.nils [some (SB.cells 130 (bkC all b))] [0]):=by kernel_rfl
theorem aJU(w:ByteArray)(most:Nat)(all:Int)(b:Bk)(n:Nat)(g:Nat->List SV)(K:KC):aB myE (aA myR 1) R0 myP 1 K (.exit 0) (AM w most all b (.own 2 0 3 n) (some (.row 107 3 n g)))=
 (K (SV.own 1 0 3 n) [some (SB.cells 130 (bkC all b)),some (SB.row 107 3 n g)] [0]):=by kernel_rfl
noncomputable abbrev RT :Func:=Tryz.f33
abbrev AU(w:ByteArray)(most:Nat)(all:Int)(b:Bk)(o:SV)(r:Option SB):St:=myS 34 w most all b o r
theorem ZY(w:ByteArray)(most:Nat)(all:Int)(b:Bk)(K:KC):cL myR (fun _=>0) o4 3 33 [.agg [.ptr 0 0],.str w,.int .i64 (most:Nat),.fn (.func 34) [.agg [.ptr 0 0]] []] [some (.cells 130 (bkC all b))] K=
 (∃q_,aV myE (aA myR 1) RT myP 0 1 K q_ (AU w most all b (SV.nils) (none))):=by kernel_rfl
theorem aI7(w:ByteArray)(most:Nat)(all:Int)(b:Bk)(K:Ex->St->Prop):aF myE (aA myR 1) RT myP 0 K (AU w most all b .nils none)=
 (Br (decide (0<(↑most:Int))) (∃(e399:Bk),∃(e398:Int),((bkC all b)=bkC e398 e399/\aR e399)/\(Br (iE e399 w) (∃(e395:Bk),∃(e394:Int),((bkC e398 e399)=bkC e394 e395/\aR e395/\dH e394)/\(∀(x392:Int×Int),∀(b'391:Bk),∀(_:isF iJ e394 e395 x392 b'391),K Ex.normal (AU w most e394 b'391 (SV.own 2 0 2 1) (some (SB.row 24 2 1 fun (i:Nat)=>cut [SV.int .i64 x392.fst,SV.int .i64 x392.snd] (i*2) 2))))) (K (Ex.exit 0) (AU w most e398 e399 (SV.nils) (none))))) (K (Ex.exit 0) (AU w most all b (SV.nils) (none)))):=by kernel_rfl
theorem aLf(w:ByteArray)(most:Nat)(all:Int)(b:Bk)(n:Nat)(g:Nat->List SV)(K:Ex->St->Prop):aF myE (aA myR 1) RT myP 0 K (AU w most all b (.own 2 0 2 n) (some (.row 24 2 n g)))=
 (Br (decide ((↑n:Int)<(↑most:Int))) (∃(e399:Bk),∃(e398:Int),((bkC all b)=bkC e398 e399/\aR e399)/\(Br (iE e399 w) (∃(e395:Bk),∃(e394:Int),((bkC e398 e399)=bkC e394 e395/\aR e395/\dH e394)/\(∀(x392:Int×Int),∀(b'391:Bk),∀(_:isF iJ e394 e395 x392 b'391),Br (decide ((n+1)*16<=1099511627776)&&decide (n+1<9223372036854775808)&&decide (n=n)) (K Ex.normal (AU w most e394 b'391 (SV.own 2 0 2 (n+1)) (some (SB.row 24 2 (n+1) (bK n [SV.int .i64 x392.fst,SV.int .i64 x392.snd] g))))) (False))) (K (Ex.exit 0) (AU w most e398 e399 (SV.own 2 0 2 n) (some (SB.row 24 2 n g)))))) (K (Ex.exit 0) (AU w most all b (SV.own 2 0 2 n) (some (SB.row 24 2 n g))))):=by kernel_rfl
theorem aK2(w:ByteArray)(most:Nat)(all:Int)(b:Bk)(K:KC):aB myE (aA myR 1) RT myP 1 K (.exit 0) (AU w most all b .nils none)=
 (K SV.nils [some (SB.cells 130 (bkC all b))] [0]):=by kernel_rfl
theorem aKf(w:ByteArray)(most:Nat)(all:Int)(b:Bk)(n:Nat)(g:Nat->List SV)(K:KC):aB myE (aA myR 1) RT myP 1 K (.exit 0) (AU w most all b (.own 2 0 2 n) (some (.row 24 2 n g)))=
 (K (SV.own 1 0 2 n) [some (SB.cells 130 (bkC all b)),some (SB.row 24 2 n g)] [0]):=by kernel_rfl
noncomputable abbrev SM :Func:=Tryz.f35
abbrev AT(w:ByteArray)(most:Nat)(all:Int)(b:Bk)(o:SV)(r:Option SB):St:=myS 36 w most all b o r
theorem aAA(w:ByteArray)(most:Nat)(all:Int)(b:Bk)(K:KC):cL myR (fun _=>0) o4 3 35 [.agg [.ptr 0 0],.str w,.int .i64 (most:Nat),.fn (.func 36) [.agg [.ptr 0 0]] []] [some (.cells 130 (bkC all b))] K=
 (∃q_,aV myE (aA myR 1) SM myP 0 1 K q_ (AT w most all b (SV.nils) (none))):=by kernel_rfl
theorem aKe(w:ByteArray)(most:Nat)(all:Int)(b:Bk)(K:Ex->St->Prop):aF myE (aA myR 1) SM myP 0 K (AT w most all b .nils none)=
 (Br (decide (0<(↑most:Int))) (∃(e399:Bk),∃(e398:Int),((bkC all b)=bkC e398 e399/\aR e399)/\(Br (iE e399 w) (∃(e395:Bk),∃(e394:Int),((bkC e398 e399)=bkC e394 e395/\aR e395/\dH e394)/\(∀(x392:List (Int×Int)),∀(b'391:Bk),∀(_:isF iF e394 e395 x392 b'391),K Ex.normal (AT w most e394 b'391 (SV.own 2 0 1 1) (some (SB.row 28 1 1 fun (i:Nat)=>cut [SV.ro x392.length 2 (aU plL (0,0) x392)] (i*1) 1))))) (K (Ex.exit 0) (AT w most e398 e399 (SV.nils) (none))))) (K (Ex.exit 0) (AT w most all b (SV.nils) (none)))):=by kernel_rfl
theorem aK1(w:ByteArray)(most:Nat)(all:Int)(b:Bk)(n:Nat)(g:Nat->List SV)(K:Ex->St->Prop):aF myE (aA myR 1) SM myP 0 K (AT w most all b (.own 2 0 1 n) (some (.row 28 1 n g)))=
 (Br (decide ((↑n:Int)<(↑most:Int))) (∃(e399:Bk),∃(e398:Int),((bkC all b)=bkC e398 e399/\aR e399)/\(Br (iE e399 w) (∃(e395:Bk),∃(e394:Int),((bkC e398 e399)=bkC e394 e395/\aR e395/\dH e394)/\(∀(x392:List (Int×Int)),∀(b'391:Bk),∀(_:isF iF e394 e395 x392 b'391),Br (decide ((n+1)*24<=1099511627776)&&decide (n+1<9223372036854775808)&&decide (n=n)) (K Ex.normal (AT w most e394 b'391 (SV.own 2 0 1 (n+1)) (some (SB.row 28 1 (n+1) (bK n [SV.ro x392.length 2 (aU plL (0,0) x392)] g))))) (False))) (K (Ex.exit 0) (AT w most e398 e399 (SV.own 2 0 1 n) (some (SB.row 28 1 n g)))))) (K (Ex.exit 0) (AT w most all b (SV.own 2 0 1 n) (some (SB.row 28 1 n g))))):=by kernel_rfl
theorem aIK(w:ByteArray)(most:Nat)(all:Int)(b:Bk)(K:KC):aB myE (aA myR 1) SM myP 1 K (.exit 0) (AT w most all b .nils none)=
 (K SV.nils [some (SB.cells 130 (bkC all b))] [0]):=by kernel_rfl
theorem aJP(w:ByteArray)(most:Nat)(all:Int)(b:Bk)(n:Nat)(g:Nat->List SV)(K:KC):aB myE (aA myR 1) SM myP 1 K (.exit 0) (AT w most all b (.own 2 0 1 n) (some (.row 28 1 n g)))=
 (K (SV.own 1 0 1 n) [some (SB.cells 130 (bkC all b)),some (SB.row 28 1 n g)] [0]):=by kernel_rfl
noncomputable abbrev UJ :Func:=Tryz.f37
abbrev AW(w:ByteArray)(most:Nat)(all:Int)(b:Bk)(o:SV)(r:Option SB):St:=myS 38 w most all b o r
theorem XZ(w:ByteArray)(most:Nat)(all:Int)(b:Bk)(K:KC):cL myR (fun _=>0) o4 3 37 [.agg [.ptr 0 0],.str w,.int .i64 (most:Nat),.fn (.func 38) [.agg [.ptr 0 0]] []] [some (.cells 130 (bkC all b))] K=
 (∃q_,aV myE (aA myR 1) UJ myP 0 1 K q_ (AW w most all b (SV.nils) (none))):=by kernel_rfl
theorem aK4(w:ByteArray)(most:Nat)(all:Int)(b:Bk)(K:Ex->St->Prop):aF myE (aA myR 1) UJ myP 0 K (AW w most all b .nils none)=
 (Br (decide (0<(↑most:Int))) (∃(e399:Bk),∃(e398:Int),((bkC all b)=bkC e398 e399/\aR e399)/\(Br (iE e399 w) (∃(e395:Bk),∃(e394:Int),((bkC e398 e399)=bkC e394 e395/\aR e395/\dH e394)/\(∀(x392:Int×Int×Int×Int×Bool),∀(b'391:Bk),∀(_:isF kU e394 e395 x392 b'391),K Ex.normal (AW w most e394 b'391 (SV.own 2 0 5 1) (some (SB.row 57 5 1 fun (i:Nat)=>cut [SV.int .i64 x392.fst,SV.int .i64 x392.snd.fst,SV.int .i64 x392.snd.snd.fst,SV.int .i64 x392.snd.snd.snd.fst,SV.bool x392.snd.snd.snd.snd] (i*5) 5))))) (K (Ex.exit 0) (AW w most e398 e399 (SV.nils) (none))))) (K (Ex.exit 0) (AW w most all b (SV.nils) (none)))):=by kernel_rfl
theorem aKs(w:ByteArray)(most:Nat)(all:Int)(b:Bk)(n:Nat)(g:Nat->List SV)(K:Ex->St->Prop):aF myE (aA myR 1) UJ myP 0 K (AW w most all b (.own 2 0 5 n) (some (.row 57 5 n g)))=
 (Br (decide ((↑n:Int)<(↑most:Int))) (∃(e399:Bk),∃(e398:Int),((bkC all b)=bkC e398 e399/\aR e399)/\(Br (iE e399 w) (∃(e395:Bk),∃(e394:Int),((bkC e398 e399)=bkC e394 e395/\aR e395/\dH e394)/\(∀(x392:Int×Int×Int×Int×Bool),∀(b'391:Bk),∀(_:isF kU e394 e395 x392 b'391),Br (decide ((n+1)*40<=1099511627776)&&decide (n+1<9223372036854775808)&&decide (n=n)) (K Ex.normal (AW w most e394 b'391 (SV.own 2 0 5 (n+1)) (some (SB.row 57 5 (n+1) (bK n [SV.int .i64 x392.fst,SV.int .i64 x392.snd.fst,SV.int .i64 x392.snd.snd.fst,SV.int .i64 x392.snd.snd.snd.fst,SV.bool x392.snd.snd.snd.snd] g))))) (False))) (K (Ex.exit 0) (AW w most e398 e399 (SV.own 2 0 5 n) (some (SB.row 57 5 n g)))))) (K (Ex.exit 0) (AW w most all b (SV.own 2 0 5 n) (some (SB.row 57 5 n g))))):=by kernel_rfl
theorem aLh(w:ByteArray)(most:Nat)(all:Int)(b:Bk)(K:KC):aB myE (aA myR 1) UJ myP 1 K (.exit 0) (AW w most all b .nils none)=
 (K SV.nils [some (SB.cells 130 (bkC all b))] [0]):=by kernel_rfl
theorem aLd(w:ByteArray)(most:Nat)(all:Int)(b:Bk)(n:Nat)(g:Nat->List SV)(K:KC):aB myE (aA myR 1) UJ myP 1 K (.exit 0) (AW w most all b (.own 2 0 5 n) (some (.row 57 5 n g)))=
 (K (SV.own 1 0 5 n) [some (SB.cells 130 (bkC all b)),some (SB.row 57 5 n g)] [0]):=by kernel_rfl
theorem aHw(w:ByteArray)(most:Nat)(all:Int)(b0:Bk)(hb:aR b0)(ha:dH all)(hm:most<=1000)(K:KC)(hK:qC 107 3 kiL (dW w (j0 all) most ([],b0)).1 (.cells 130 (bkC all (dW w (j0 all) most ([],b0)).2)) K):
  cL myR (fun _=>0) o4 3 78 [.agg [.ptr 0 0],.str w,.int .i64 (most:Nat),.fn (.func 79) [.agg [.ptr 0 0]] []] [some (.cells 130 (bkC all b0))] K:=by
 rw [aBd]
 refine ⟨most+1, ?_⟩
 show iter (aF myE (aA myR 1) R0 myP 0) (aB myE (aA myR 1) R0 myP 1 K) (most+1) (AM w most all b0 .nils none)
 refine wJ (e:=107) (st:=3) (id:=2) (f:=kiL) (w:=w) (one:=j0 all) (fun o r b=>AM w most all b o r) most b0 hb (fun b h=>QO h) (fun L b o r hb' hl ht X hgo hex=> ?_) fun o r ht hb' hl=> ?_
 ·rcases ht with ⟨h0,rfl,rfl⟩|⟨g,hne,rfl,rfl,hg⟩
  ·rw [aLl]
   refine Br.of (fun c=>⟨b,all,⟨rfl,hb'⟩,Br.of (fun c2=>⟨b,all,⟨rfl,hb',ha⟩,fun x b' hx=> ?_⟩) fun c2=>hex fun _=>c2⟩) fun c=>hex fun h=>absurd (ae c) (by simp only [h0,bw] at h;omega)
   obtain ⟨rfl,rfl⟩:=pR hx
   exact hgo (by rw [h0];show 0<most;have:=aa c;omega) c2 _ _ (by rw [h0];exact eT rfl rfl)
  ·rw [aJw]
   refine Br.of (fun c=>⟨b,all,⟨rfl,hb'⟩,Br.of (fun c2=>⟨b,all,⟨rfl,hb',ha⟩,fun x b' hx=>Br.of (fun _=> ?_) fun c=>absurd c (by simp;omega)⟩) fun c2=>hex fun _=>c2⟩) fun c=>hex fun h=>absurd (ae c) (by omega)
   obtain ⟨rfl,rfl⟩:=pR hx
   exact hgo (by have:=aa c;omega) c2 _ _ (fQ rfl rfl hg)
 ·refine sJ ht hK (fun h1 h2 hK=> ?_) fun m g h1 h2 hK=> ?_
  ·subst h1;subst h2
   rw [aKm];exact hK
  ·subst h1;subst h2
   rw [aJU];exact hK
theorem aHi(xs:List SV)(σ:List (Option SB)):Sat Tryz.prog 78 xs σ (dMy 79 3 kiL (0,0,false) j0 xs σ):=
 C6 (st:=3) (R:=kiL) (d0:=(0,0,false)) (F:=j0) (fun w m b all hb ha hm=>mO (e:=107) (f:=kiL) (BK _ _) (fun _=>rfl) fun K hK=>bS (env:=tab.env o4 (fun _=>0) (fun _=>false)) ⟨tab.htt,o4.ok⟩ tab.mixed (fun n=>aY n myR) tab.hft 3 _ _ _ K (aHw w m all b hb ha hm K hK)) xs σ
theorem aGh(w:ByteArray)(most:Nat)(all:Int)(b0:Bk)(hb:aR b0)(ha:dH all)(hm:most<=1000)(K:KC)(hK:qC 24 2 plL (dW w (iJ all) most ([],b0)).1 (.cells 130 (bkC all (dW w (iJ all) most ([],b0)).2)) K):
  cL myR (fun _=>0) o4 3 33 [.agg [.ptr 0 0],.str w,.int .i64 (most:Nat),.fn (.func 34) [.agg [.ptr 0 0]] []] [some (.cells 130 (bkC all b0))] K:=by
 rw [ZY]
 refine ⟨most+1, ?_⟩
 show iter (aF myE (aA myR 1) RT myP 0) (aB myE (aA myR 1) RT myP 1 K) (most+1) (AU w most all b0 .nils none)
 refine wJ (e:=24) (st:=2) (id:=2) (f:=plL) (w:=w) (one:=iJ all) (fun o r b=>AU w most all b o r) most b0 hb (fun b h=>IY h) (fun L b o r hb' hl ht X hgo hex=> ?_) fun o r ht hb' hl=> ?_
 ·rcases ht with ⟨h0,rfl,rfl⟩|⟨g,hne,rfl,rfl,hg⟩
  ·rw [aI7]
   refine Br.of (fun c=>⟨b,all,⟨rfl,hb'⟩,Br.of (fun c2=>⟨b,all,⟨rfl,hb',ha⟩,fun x b' hx=> ?_⟩) fun c2=>hex fun _=>c2⟩) fun c=>hex fun h=>absurd (ae c) (by simp only [h0,bw] at h;omega)
   obtain ⟨rfl,rfl⟩:=pR hx
   exact hgo (by rw [h0];show 0<most;have:=aa c;omega) c2 _ _ (by rw [h0];exact eT rfl rfl)
  ·rw [aLf]
   refine Br.of (fun c=>⟨b,all,⟨rfl,hb'⟩,Br.of (fun c2=>⟨b,all,⟨rfl,hb',ha⟩,fun x b' hx=>Br.of (fun _=> ?_) fun c=>absurd c (by simp;omega)⟩) fun c2=>hex fun _=>c2⟩) fun c=>hex fun h=>absurd (ae c) (by omega)
   obtain ⟨rfl,rfl⟩:=pR hx
   exact hgo (by have:=aa c;omega) c2 _ _ (fQ rfl rfl hg)
 ·refine sJ ht hK (fun h1 h2 hK=> ?_) fun m g h1 h2 hK=> ?_
  ·subst h1;subst h2
   rw [aK2];exact hK
  ·subst h1;subst h2
   rw [aKf];exact hK
theorem aGA(xs:List SV)(σ:List (Option SB)):Sat Tryz.prog 33 xs σ (dMy 34 2 plL (0,0) iJ xs σ):=
 C6 (st:=2) (R:=plL) (d0:=(0,0)) (F:=iJ) (fun w m b all hb ha hm=>mO (e:=24) (f:=plL) (BK _ _) (fun _=>rfl) fun K hK=>bS (env:=tab.env o4 (fun _=>0) (fun _=>false)) ⟨tab.htt,o4.ok⟩ tab.mixed (fun n=>aY n myR) tab.hft 3 _ _ _ K (aGh w m all b hb ha hm K hK)) xs σ
theorem aHM(w:ByteArray)(most:Nat)(all:Int)(b0:Bk)(hb:aR b0)(ha:dH all)(hm:most<=1000)(K:KC)(hK:qC 28 1 raL (dW w (iF all) most ([],b0)).1 (.cells 130 (bkC all (dW w (iF all) most ([],b0)).2)) K):
  cL myR (fun _=>0) o4 3 35 [.agg [.ptr 0 0],.str w,.int .i64 (most:Nat),.fn (.func 36) [.agg [.ptr 0 0]] []] [some (.cells 130 (bkC all b0))] K:=by
 rw [aAA]
 refine ⟨most+1, ?_⟩
 show iter (aF myE (aA myR 1) SM myP 0) (aB myE (aA myR 1) SM myP 1 K) (most+1) (AT w most all b0 .nils none)
 refine wJ (e:=28) (st:=1) (id:=2) (f:=raL) (w:=w) (one:=iF all) (fun o r b=>AT w most all b o r) most b0 hb (fun b h=>DP h) (fun L b o r hb' hl ht X hgo hex=> ?_) fun o r ht hb' hl=> ?_
 ·rcases ht with ⟨h0,rfl,rfl⟩|⟨g,hne,rfl,rfl,hg⟩
  ·rw [aKe]
   refine Br.of (fun c=>⟨b,all,⟨rfl,hb'⟩,Br.of (fun c2=>⟨b,all,⟨rfl,hb',ha⟩,fun x b' hx=> ?_⟩) fun c2=>hex fun _=>c2⟩) fun c=>hex fun h=>absurd (ae c) (by simp only [h0,bw] at h;omega)
   obtain ⟨rfl,rfl⟩:=pR hx
   exact hgo (by rw [h0];show 0<most;have:=aa c;omega) c2 _ _ (by rw [h0];exact eT rfl rfl)
  ·rw [aK1]
   refine Br.of (fun c=>⟨b,all,⟨rfl,hb'⟩,Br.of (fun c2=>⟨b,all,⟨rfl,hb',ha⟩,fun x b' hx=>Br.of (fun _=> ?_) fun c=>absurd c (by simp;omega)⟩) fun c2=>hex fun _=>c2⟩) fun c=>hex fun h=>absurd (ae c) (by omega)
   obtain ⟨rfl,rfl⟩:=pR hx
   exact hgo (by have:=aa c;omega) c2 _ _ (fQ rfl rfl hg)
 ·refine sJ ht hK (fun h1 h2 hK=> ?_) fun m g h1 h2 hK=> ?_
  ·subst h1;subst h2
   rw [aIK];exact hK
  ·subst h1;subst h2
   rw [aJP];exact hK
theorem aFQ(xs:List SV)(σ:List (Option SB)):Sat Tryz.prog 35 xs σ (dMy 36 1 raL [] iF xs σ):=
 C6 (st:=1) (R:=raL) (d0:=[]) (F:=iF) (fun w m b all hb ha hm=>mO (e:=28) (f:=raL) (BK _ _) (fun _=>rfl) fun K hK=>bS (env:=tab.env o4 (fun _=>0) (fun _=>false)) ⟨tab.htt,o4.ok⟩ tab.mixed (fun n=>aY n myR) tab.hft 3 _ _ _ K (aHM w m all b hb ha hm K hK)) xs σ
theorem aHL(w:ByteArray)(most:Nat)(all:Int)(b0:Bk)(hb:aR b0)(ha:dH all)(hm:most<=1000)(K:KC)(hK:qC 57 5 gaL (dW w (kU all) most ([],b0)).1 (.cells 130 (bkC all (dW w (kU all) most ([],b0)).2)) K):
  cL myR (fun _=>0) o4 3 37 [.agg [.ptr 0 0],.str w,.int .i64 (most:Nat),.fn (.func 38) [.agg [.ptr 0 0]] []] [some (.cells 130 (bkC all b0))] K:=by
 rw [XZ]
 refine ⟨most+1, ?_⟩
 show iter (aF myE (aA myR 1) UJ myP 0) (aB myE (aA myR 1) UJ myP 1 K) (most+1) (AW w most all b0 .nils none)
 refine wJ (e:=57) (st:=5) (id:=2) (f:=gaL) (w:=w) (one:=kU all) (fun o r b=>AW w most all b o r) most b0 hb (fun b h=>OX h) (fun L b o r hb' hl ht X hgo hex=> ?_) fun o r ht hb' hl=> ?_
 ·rcases ht with ⟨h0,rfl,rfl⟩|⟨g,hne,rfl,rfl,hg⟩
  ·rw [aK4]
   refine Br.of (fun c=>⟨b,all,⟨rfl,hb'⟩,Br.of (fun c2=>⟨b,all,⟨rfl,hb',ha⟩,fun x b' hx=> ?_⟩) fun c2=>hex fun _=>c2⟩) fun c=>hex fun h=>absurd (ae c) (by simp only [h0,bw] at h;omega)
   obtain ⟨rfl,rfl⟩:=pR hx
   exact hgo (by rw [h0];show 0<most;have:=aa c;omega) c2 _ _ (by rw [h0];exact eT rfl rfl)
  ·rw [aKs]
   refine Br.of (fun c=>⟨b,all,⟨rfl,hb'⟩,Br.of (fun c2=>⟨b,all,⟨rfl,hb',ha⟩,fun x b' hx=>Br.of (fun _=> ?_) fun c=>absurd c (by simp;omega)⟩) fun c2=>hex fun _=>c2⟩) fun c=>hex fun h=>absurd (ae c) (by omega)
   obtain ⟨rfl,rfl⟩:=pR hx
   exact hgo (by have:=aa c;omega) c2 _ _ (fQ rfl rfl hg)
 ·refine sJ ht hK (fun h1 h2 hK=> ?_) fun m g h1 h2 hK=> ?_
  ·subst h1;subst h2
   rw [aLh];exact hK
  ·subst h1;subst h2
   rw [aLd];exact hK
theorem aGj(xs:List SV)(σ:List (Option SB)):Sat Tryz.prog 37 xs σ (dMy 38 5 gaL (0,0,0,0,false) kU xs σ):=
 C6 (st:=5) (R:=gaL) (d0:=(0,0,0,0,false)) (F:=kU) (fun w m b all hb ha hm=>mO (e:=57) (f:=gaL) (BK _ _) (fun _=>rfl) fun K hK=>bS (env:=tab.env o4 (fun _=>0) (fun _=>false)) ⟨tab.htt,o4.ok⟩ tab.mixed (fun n=>aY n myR) tab.hft 3 _ _ _ K (aHL w m all b hb ha hm K hK)) xs σ
noncomputable def o5 :bT Tryz.prog:=((((o4).add 78 (dMy 79 3 kiL (0,0,false) j0) aHi).add 33 (dMy 34 2 plL (0,0) iJ) aGA).add 35 (dMy 36 1 raL [] iF) aFQ).add 37 (dMy 38 5 gaL (0,0,0,0,false) kU) aGj
open Go.RowKit Go.Extern.Stop Go.Stop Go.Extern Go.Se
theorem aII(t:Value)(w:World):
  Calls Tryz.prog 55 #[.nilIface,t] w fun e w'=>e= .returned (.bool false)/\w'=w:=by
 go_enter Tryz.func55,Tryz.ntmps55
 go_wp2
 go_ret
 exact ⟨rfl,rfl⟩
theorem LQ(t:Addr)(w:World):(ReflectliteValue.unpack (.iface 96 (.pointer (some t)))).run Tryz.prog w
  = .ok (.agg #[.pointer (some ⟨6,96,none⟩),.pointer (some ⟨w.heap.size,0,none⟩),.int .u64 150]) (w.alloc (.cells #[.pointer (some t)] 96)):=by kernel_rfl
theorem ZD(a:Addr)(w:World):(ReflectliteValue.methodAny (ReflectliteValue.valueError "reflectlite.Value.Type" 0) (fun t _ _ _=>ReflectliteType.toType t) #[.agg #[.pointer (some ⟨6,96,none⟩),.pointer (some a),.int .u64 150]]).run Tryz.prog w
  = .ok (.iface 194 (.agg #[.pointer (some ⟨6,96,none⟩)])) w:=by kernel_rfl
theorem HM(h:Value)(w:World):(Go.method 447 194 (.agg #[h]) "Kind").run Tryz.prog w= .ok (261,h) w:=by kernel_rfl
theorem YY(w:World):((ReflectliteType.abiMethod fun t=>(fun a:Nat=>Value.int IntKind.u8 (a:Int))<$>Rtype.kind t) #[.pointer (some ⟨6,96,none⟩)]).run Tryz.prog w= .ok (.int .u8 22) w:=by kernel_rfl
theorem YS(w:World):((ReflectliteType.abiMethod fun t=>(fun a:Nat=>Value.int IntKind.u8 (a:Int))<$>Rtype.kind t) #[.pointer (some ⟨6,91,none⟩)]).run Tryz.prog w= .ok (.int .u8 22) w:=by kernel_rfl
theorem rlm(z:Sem Value)(f:TypeId->Addr->Nat->Nat->Sem Value)(v:Value):
  ReflectliteValue.method z f #[v]=(do match<- ReflectliteValue.parts v with|none=>z|some (t,a,fl)=>f t a fl (fl%32)):=rfl
theorem E8(a:Addr)(w:World):(ReflectliteValue.parts (.agg #[.pointer (some ⟨6,96,none⟩),.pointer (some a),.int .u64 150])).run Tryz.prog w= .ok (some (96,a,150)) w:=by kernel_rfl
theorem U4(a p:Addr)(W:World)(ha:W.cell? a=some (.pointer (some p))):
  (ReflectliteValue.method (ReflectliteValue.valueError "reflectlite.Value.IsNil" 0) ReflectliteValue.isNil #[.agg #[.pointer (some ⟨6,96,none⟩),.pointer (some a),.int .u64 150]]).run Tryz.prog W= .ok (.bool false) W:=by
 rw [rlm]
 simp only [Sem.run_bind,E8,Result.andThen]
 simp [ReflectliteValue.isNil,loadVar,isAgg,underlying,Tryz.underlying96,ha,Result.andThen]
theorem HL(h:Value)(w:World):(Go.method 447 194 (.agg #[h]) "Elem").run Tryz.prog w= .ok (273,.agg #[h]) w:=by kernel_rfl
theorem w8(h:Value)(w:World):(Go.method 447 194 (.agg #[h]) "Implements").run Tryz.prog w= .ok (274,.agg #[h]) w:=by kernel_rfl
theorem uN(h:Value)(w:World):(Go.method 447 194 (.agg #[h]) "AssignableTo").run Tryz.prog w= .ok (271,.agg #[h]) w:=by kernel_rfl
theorem YM(w:World):(ReflectliteType.method ReflectliteType.elem #[.agg #[.pointer (some ⟨6,96,none⟩)]]).run Tryz.prog w= .ok (.iface 194 (.agg #[.pointer (some ⟨6,91,none⟩)])) w:=by kernel_rfl
theorem CL(w:World):(ReflectliteType.relation "Implements" ReflectliteType.implements_ #[.agg #[.pointer (some ⟨6,91,none⟩)],.iface 194 (.agg #[.pointer (some ⟨6,94,none⟩)])]).run Tryz.prog w= .ok (.bool true) w:=by kernel_rfl
theorem NJ(v:Value)(w:World):(ReflectliteType.typeOf #[.iface 91 v]).run Tryz.prog w= .ok (.iface 194 (.agg #[.pointer (some ⟨6,91,none⟩)])) w:=by kernel_rfl
theorem CU(w:World):(ReflectliteType.relation "AssignableTo" ReflectliteType.assignableTo #[.agg #[.pointer (some ⟨6,91,none⟩)],.iface 194 (.agg #[.pointer (some ⟨6,91,none⟩)])]).run Tryz.prog w= .ok (.bool true) w:=by kernel_rfl
theorem LO(e:Addr)(w:World):(ReflectliteValue.unpack (.iface 91 (.pointer (some e)))).run Tryz.prog w
  = .ok (.agg #[.pointer (some ⟨6,91,none⟩),.pointer (some ⟨w.heap.size,0,none⟩),.int .u64 150]) (w.alloc (.cells #[.pointer (some e)] 91)):=by kernel_rfl
theorem OF(w:World):(Rtype.elem? 96).run Tryz.prog w= .ok (some 91) w:=by kernel_rfl
theorem aGs(p:Addr)(w:World):(ReflectliteValue.mk 91 p ReflectliteValue.flagAddr).run Tryz.prog w= .ok (.agg #[.pointer (some ⟨6,91,none⟩),.pointer (some p),.int .u64 406]) w:=by kernel_rfl
theorem TG(a p:Addr)(W:World)(ha:W.cell? a=some (.pointer (some p))):
  (ReflectliteValue.method (ReflectliteValue.valueError "reflectlite.Value.Elem" 0) ReflectliteValue.elem #[.agg #[.pointer (some ⟨6,96,none⟩),.pointer (some a),.int .u64 150]]).run Tryz.prog W
   = .ok (.agg #[.pointer (some ⟨6,91,none⟩),.pointer (some p),.int .u64 406]) W:=by
 rw [rlm]
 simp only [Sem.run_bind,E8,Result.andThen]
 simp [ReflectliteValue.elem,loadVar,isAgg,underlying,Tryz.underlying96,ha,Result.andThen,OF,aGs]
theorem rls(v x:Value):ReflectliteValue.set #[v,x]=(do
  let (some (dst,a,fl),some (src,b,_)):=(<- ReflectliteValue.parts v,<- ReflectliteValue.parts x)
   |unsupported (.noEntry "extern/(internal/reflectlite.Value).Set.zeroValue")
  if fl/ReflectliteValue.flagAddr%2==0 then unsupported (.noEntry "extern/(internal/reflectlite.Value).Set.unaddressable")
  let val<- loadVar src b
  if<- Rtype.directlyAssignable dst src then storeVar dst a val
  else if<- Rtype.implements dst src then
   if (<- Rtype.kind src)==20 then
    match val with
    | .nilIface=>unsupported (.noEntry "extern/reflectlite: a nil value of one interface type handed on as a value of another")
    |_=>storeVar dst a val
   else storeVar dst a (.iface src val)
  else panicString ("reflectlite.Set: value of type " ++(<- Rtype.spelt src)++ " is not assignable to type " ++(<- Rtype.spelt dst))
  pure (.tuple #[])):=rfl
theorem P2(a:Addr)(w:World):(ReflectliteValue.parts (.agg #[.pointer (some ⟨6,91,none⟩),.pointer (some a),.int .u64 406])).run Tryz.prog w= .ok (some (91,a,406)) w:=by kernel_rfl
theorem RI(a:Addr)(w:World):(ReflectliteValue.parts (.agg #[.pointer (some ⟨6,91,none⟩),.pointer (some a),.int .u64 150])).run Tryz.prog w= .ok (some (91,a,150)) w:=by kernel_rfl
theorem M5(w:World):(Rtype.directlyAssignable 91 91).run Tryz.prog w= .ok true w:=by kernel_rfl
theorem aEA(ta b e:Addr)(old:Value)(W:World)(hb:W.cell? b=some (.pointer (some e)))(ht:W.cell? ta=some old)(hf:W.frozen? ta=false):
  (ReflectliteValue.set #[.agg #[.pointer (some ⟨6,91,none⟩),.pointer (some ta),.int .u64 406],.agg #[.pointer (some ⟨6,91,none⟩),.pointer (some b),.int .u64 150]]).run Tryz.prog W
   = .ok (.tuple #[]) (W.setCell ta (.pointer (some e))):=by
 rw [rls]
 simp only [Sem.run_bind,P2,RI,Result.andThen]
 simp [ReflectliteValue.flagAddr,loadVar,isAgg,underlying,Tryz.underlying91,hb,Result.andThen,M5,storeVar,Value.cells,storeCells,Addr.add]
 rw [run_store Tryz.prog W ta _ _ (by rfl)]
 simp [ht,hf]
set_option maxRecDepth 1000000 in
set_option maxHeartbeats 4000000 in
theorem aKQ(e t:Addr)(old:Value)(w:World)(hg:w.cell? ⟨0,0,none⟩=some (.iface 194 (.agg #[.pointer (some ⟨6,94,none⟩)])))(ht0:w.cell? t=some old)(hf0:w.frozen? t=false):
  Calls Tryz.prog 55 #[.iface 91 (.pointer (some e)),.iface 96 (.pointer (some t))] w fun ev w'=>ev= .returned (.bool true)/\w'=((((w.alloc (.cells #[.pointer (some t)] 96)).alloc (.cells #[.pointer (some ⟨6,96,none⟩),.pointer (some ⟨w.heap.size,0,none⟩),.int .u64 150] 147)).alloc (.cells #[.pointer (some ⟨6,96,none⟩),.pointer (some ⟨w.heap.size,0,none⟩),.int .u64 150] 147)).alloc (.cells #[.pointer (some e)] 91)).setCell t (.pointer (some e)):=by
 have h6:= @run_callFunc_extern Tryz.prog 94 _ (fun args=>ReflectliteValue.unpack (args.getD 0 (.tuple #[]))) Tryz.func94 (by kernel_rfl) (by kernel_rfl) (by kernel_rfl) (by kernel_rfl)
 have h7:= @run_callFunc_extern Tryz.prog 95 _ (ReflectliteValue.methodAny (ReflectliteValue.valueError "reflectlite.Value.Type" 0) (fun t _ _ _=>ReflectliteType.toType t)) Tryz.func95 (by kernel_rfl) (by kernel_rfl) (by kernel_rfl) (by kernel_rfl)
 have h8:= @run_callFunc_extern Tryz.prog 96 _ (ReflectliteValue.method (ReflectliteValue.valueError "reflectlite.Value.IsNil" 0) ReflectliteValue.isNil) Tryz.func96 (by kernel_rfl) (by kernel_rfl) (by kernel_rfl) (by kernel_rfl)
 have h27:= @run_callFunc_extern Tryz.prog 261 _ (ReflectliteType.abiMethod fun t=>do pure (.int .u8 (<- Rtype.kind t))) Tryz.func261 (by kernel_rfl) (by kernel_rfl) (by kernel_rfl) (by kernel_rfl)
 have h37:= @run_callFunc_extern Tryz.prog 273 _ (ReflectliteType.method ReflectliteType.elem) Tryz.func273 (by kernel_rfl) (by kernel_rfl) (by kernel_rfl) (by kernel_rfl)
 have h38:= @run_callFunc_extern Tryz.prog 274 _ (ReflectliteType.relation "Implements" ReflectliteType.implements_) Tryz.func274 (by kernel_rfl) (by kernel_rfl) (by kernel_rfl) (by kernel_rfl)
 have h10:= @run_callFunc_extern Tryz.prog 137 _ ReflectliteType.typeOf Tryz.func137 (by kernel_rfl) (by kernel_rfl) (by kernel_rfl) (by kernel_rfl)
 have h35:= @run_callFunc_extern Tryz.prog 271 _ (ReflectliteType.relation "AssignableTo" ReflectliteType.assignableTo) Tryz.func271 (by kernel_rfl) (by kernel_rfl) (by kernel_rfl) (by kernel_rfl)
 have h11:= @run_callFunc_extern Tryz.prog 138 _ (ReflectliteValue.method (ReflectliteValue.valueError "reflectlite.Value.Elem" 0) ReflectliteValue.elem) Tryz.func138 (by kernel_rfl) (by kernel_rfl) (by kernel_rfl) (by kernel_rfl)
 have h12:= @run_callFunc_extern Tryz.prog 139 _ ReflectliteValue.set Tryz.func139 (by kernel_rfl) (by kernel_rfl) (by kernel_rfl) (by kernel_rfl)
 have tO:=NJ
 have mA:=uN
 have a25:=CU
 have v25:=LO
 have f6:=LQ
 have f7:=ZD
 have mK:=HM
 have mE:=HL
 have mI:=w8
 have k27:=YY
 have k25:=YS
 have e27:=YM
 have i25:=CL
 have n8:=U4 ⟨w.heap.size,0,none⟩ t ((w.alloc (.cells #[.pointer (some t)] 96)).alloc (.cells #[.pointer (some ⟨6,96,none⟩),.pointer (some ⟨w.heap.size,0,none⟩),.int .u64 150] 147)) (by simp)
 have hlt:0<w.heap.size:=by
  rcases Nat.eq_zero_or_pos w.heap.size with h0|h
  ·simp [World.cell?,h0] at hg
  ·exact h
 have hg2:((w.alloc (.cells #[.pointer (some t)] 96)).alloc (.cells #[.pointer (some ⟨6,96,none⟩),.pointer (some ⟨w.heap.size,0,none⟩),.int .u64 150] 147)).cell? ⟨0,0,none⟩=some (.iface 194 (.agg #[.pointer (some ⟨6,94,none⟩)])):=by
  rw [World.cell?_alloc_lt _ _ ⟨0,0,none⟩ (by simp),World.cell?_alloc_lt _ _ ⟨0,0,none⟩ hlt];exact hg
 have htl:t.block<w.heap.size:=by
  rcases Nat.lt_or_ge t.block w.heap.size with h|h
  ·exact h
  ·simp [World.cell?,Array.getElem?_eq_none h] at ht0
 have el:=TG ⟨w.heap.size,0,none⟩ t (((w.alloc (.cells #[.pointer (some t)] 96)).alloc (.cells #[.pointer (some ⟨6,96,none⟩),.pointer (some ⟨w.heap.size,0,none⟩),.int .u64 150] 147)).alloc (.cells #[.pointer (some ⟨6,96,none⟩),.pointer (some ⟨w.heap.size,0,none⟩),.int .u64 150] 147)) (by rw [World.cell?_alloc_lt _ _ ⟨w.heap.size,0,none⟩ (by simp;omega)];simp)
 have st:=aEA t ⟨w.heap.size+1+1+1,0,none⟩ e old ((((w.alloc (.cells #[.pointer (some t)] 96)).alloc (.cells #[.pointer (some ⟨6,96,none⟩),.pointer (some ⟨w.heap.size,0,none⟩),.int .u64 150] 147)).alloc (.cells #[.pointer (some ⟨6,96,none⟩),.pointer (some ⟨w.heap.size,0,none⟩),.int .u64 150] 147)).alloc (.cells #[.pointer (some e)] 91))
  (by rw [World.cell?_alloc_at _ _ _ _ (by simp)];rfl)
  (by rw [World.cell?_alloc_lt _ _ t (by simp;omega),World.cell?_alloc_lt _ _ t (by simp;omega),World.cell?_alloc_lt _ _ t (by simp;omega),World.cell?_alloc_lt _ _ t htl];exact ht0)
  (by rw [World.frozen?_alloc_old _ _ t (by simp;omega),World.frozen?_alloc_old _ _ t (by simp;omega),World.frozen?_alloc_old _ _ t (by simp;omega),World.frozen?_alloc_old _ _ t (Nat.ne_of_lt htl)];exact hf0)
 go_enter Tryz.func55,Tryz.ntmps55
 go_wp2
 refine wp_loop_rounds 1 ?_
 rw [rounds_succ]
 go_wp2
 go_ret
 exact ⟨rfl,rfl⟩
open Go.Se
theorem PZ{ρ:aL}{T:Nat->Prop}{w:World}{x y:SV}{vals:Array Value}(h:aX ρ T w [x,y] vals.toList): ∃a b,vals= #[a,b]/\rel ρ T w x a/\rel ρ T w y b:=by
 obtain ⟨a,r,h1,ha,b,r',h2,hb,h3⟩:=h
 have h3':r'=[]:=h3
 subst h3';subst h2
 exact ⟨a,b,by rw [<- Array.toList_inj,h1],ha,hb⟩
theorem aFi(sb:SB):aE Tryz.prog 55 [.nilI,.iface 96 (.ptr 0 0)] [some sb] (.bool false) [some sb] []:=by
 intro ρ T w vals h1 h2 h3 h4
 obtain ⟨a,b,rfl,ha,y,rfl,_⟩:=PZ h1
 have ha':a= .nilIface:=ha
 subst ha'
 refine .inl ⟨_,Tryz.func55,by kernel_rfl,by kernel_rfl,(aII _ w).mono fun e w' ⟨he,hw⟩=>⟨_,he,ρ,T, ?_⟩⟩
 subst hw
 exact {
  names:=fun _ _ h=>h
  only:=fun p b hp=>(h4 p b hp).1
  len:=av _
  val:=rfl
  store:=fun p sb hp=>by
   obtain ⟨sb',b,e1,e2,e3,e4⟩:=h2 p (ca.1 hp).1
   rw [hp] at e1
   simp only [an] at e1
   subst e1
   exact ⟨b,e2,e3,e4⟩
  fresh:=fun p b hp hb=>absurd (h4 p b hb).1 (gh.2 hp)
  inj:=fun p q b hp _ hb _=>absurd (h4 p b hb).1 (gh.2 hp)
  dirty:=fun _ h=>by cases h
  grow:=bG.refl _ _
  tback:=fun _ _ h=>h
  below:=fun p b hp=>(h4 p b hp).2
  tkeep:=fun _ _ h=> .inl h}
theorem NS :yU Tryz.prog=some (0,.iface 194 (.agg #[.pointer (some ⟨6,94,none⟩)])):=by kernel_rfl
theorem aBJ(sb:SB)(et:TypeId)(c:SV):aE Tryz.prog 55 [.iface 91 (.ptr 0 0),.iface 96 (.ptr 1 0)] [some sb,some (.cells et [c])] (.bool true) [some sb,some (.cells et [.ptr 0 0])] [1]:=by
 intro ρ T w vals h1 h2 h3 h4
 obtain ⟨a,b,rfl,⟨y,rfl,b1,r1,rfl⟩,z,rfl,b0,r0,rfl⟩:=PZ h1
 obtain ⟨sb0,c0,e1,e2,hT0,hB0⟩:=h2 0 (by simp)
 simp only [cv,an] at e1
 subst e1
 rw [r1] at e2;cases e2
 obtain ⟨sb1,c1,e1,e2,hT1,hB1⟩:=h2 1 (by simp)
 simp only [ff,cv,an] at e1
 subst e1
 rw [r0] at e2;cases e2
 obtain ⟨vs,hh,v0,r,hv,_,hr⟩:=hB1
 have hr':r=[]:=hr
 subst hr'
 have hvs:vs= #[v0]:=by apply fw;exact hv
 subst hvs
 have hlt:=(h4 1 b0 r0).2
 have hne:b1≠b0:=fun e=>by have:=h3 0 1 b0 (by rw [r1,e]) r0;cases this
 obtain ⟨_,hg⟩:=h4.inv _ _ NS
 refine .inl ⟨_,Tryz.func55,by kernel_rfl,by kernel_rfl,(aKQ ⟨b1,0,none⟩ ⟨b0,0,none⟩ v0 w hg (by rw [fF hh];rfl) (I2 hh)).mono fun e w' ⟨he,hw⟩=>⟨_,he,ρ,T, ?_⟩⟩
 generalize hW:(((w.alloc _).alloc _).alloc _).alloc _=w4 at hw
 have hG4:bG (fun _=>False) w w4:=by
  subst hW
  exact (((bG.alloc _ w _).trans (bG.alloc _ _ _) fun _ _ h=>h).trans (bG.alloc _ _ _) fun _ _ h=>h).trans (bG.alloc _ _ _) fun _ _ h=>h
 have hh4:w4.heap[b0]? =some (.cells #[v0] et (0,0)):=by rw [hG4.same b0 hlt fun h=>h];exact hh
 rw [B0 hh4] at hw
 have hG5:bG (fun c=>c=b0) w4 w':=by rw [hw];exact bG.put hh4 (by simp) _ rfl
 have hG:bG (fun c=>c=b0) w w':=(hG4.mono fun _ _ h=>h.elim).trans hG5 fun _ _ h=>h
 have hGT:bG T w w':=hG.mono fun c _ hc=>by rw [hc];exact hT1
 exact {
  names:=fun _ _ h=>h
  only:=fun p b hp=>(h4 p b hp).1
  len:=av _
  val:=rfl
  store:=fun p sb' hp=>by
   match p,hp with
   |0,hp=>
    simp only [cv,an] at hp
    subst hp
    exact ⟨b1,r1,hT0,rT (fun _ _ h=>h) (fun _ _ h=>h) hGT (hG.same b1 (h4 0 b1 r1).2 hne) hB0⟩
   |1,hp=>
    simp only [ff,cv,an] at hp
    subst hp
    refine ⟨b0,r0,hT1,_,by rw [hw];exact dY (bk.1 hh4).1, ?_⟩
    exact ⟨_,[],rfl,⟨b1,r1,rfl⟩,rfl⟩
   |n+2,hp=>simp at hp
  fresh:=fun p b hp hb=>absurd (h4 p b hb).1 (gh.2 hp)
  inj:=fun p q b hp _ hb _=>absurd (h4 p b hb).1 (gh.2 hp)
  dirty:=fun p hp=>by
   obtain rfl:=aq.1 hp
   show 1<2
   omega
  grow:=hG.mono fun c _ hc=>⟨1,by simp,by rw [hc];exact r0⟩
  tback:=fun _ _ h=>h
  below:=fun p b hp=>dm (h4 p b hp).2 hG.size
  tkeep:=fun _ _ h=> .inl h}
def cAs :List SV->List (Option SB)->KC->Prop
 | [.nilI,.iface 96 (.ptr 0 0)],[some b],K=>K (.bool false) [some b] []
 | [.iface 91 (.ptr 0 0),.iface 96 (.ptr 1 0)],[some b,some (.cells e [_])],K=>K (.bool true) [some b,some (.cells e [.ptr 0 0])] [1]
 |_,_,_=>False
theorem aCW(xs:List SV)(σ:List (Option SB)):Sat Tryz.prog 55 xs σ (cAs xs σ):=by
 intro K hK
 unfold cAs at hK
 split at hK
 ·exact ⟨_,_,_,hK,aFi _⟩
 ·exact ⟨_,_,_,hK,aBJ _ _ _⟩
 ·exact hK.elim
end Go.Proofs.YtghnfjfkjhbgdaaGreatDoor
namespace Go.Proofs.YtghnfjfkjhbgdaaGreatDoor
open Go.Se
set_option maxRecDepth 100000
noncomputable def t0 :bT Tryz.prog:=(k8).add 55 cAs aCW
noncomputable abbrev iM(env:Env)(W:Nat->St->Option St)(fn:Func)(path:List Nat)(blk:Nat)(inn:List Nat)(K:Ex->St->Prop):Ex->St->Prop:=
 UD env W blk (tA (LN fn) (path++[0])) inn (fun e=>wk (W blk) (K e))
end Go.Proofs.YtghnfjfkjhbgdaaGreatDoor
namespace Go.Se
variable {P:Program}
def frz :Nat->List (Option SB)->SV->SV
 |0,_,_=> .junk
 |d+1,σ,v=>match v with
  | .own id 0 st len=>match σ[id]? with
   |some (some (.lst _ cs))=>bif Nat.ble (len*st) cs.length then .ro len st (fun i=>(cut cs (Nat.min i (len - 1)*st) st).map (frz d σ)) else .junk
   |some (some (.row _ st' n g))=>bif Nat.beq st' st&&Nat.ble len n then .ro len st g else .junk
   |_=> .junk
  | .arr id 0 len cap=>match σ[id]? with
   |some (some (.cells _ cs))=>bif Nat.ble len cap then .ro len (cs.length/len) (fun i=>(cut cs (Nat.min i (len - 1)*(cs.length/len)) (cs.length/len)).map (frz d σ)) else .junk
   |_=> .junk
  | .agg cs=> .agg (cs.map (frz d σ))
  | .tup cs=> .tup (cs.map (frz d σ))
  |v=>bif (ids v).isEmpty then v else .junk
section
variable {σ:List (Option SB)} {ρ:aL} {T:Nat->Prop} {w:World} {N:Nat}
theorem TB(hst: ∀p sb,σ[p]? =some (some sb)-> ∃b,ρ p=some b/\fV ρ T w sb b/\N<=b):
  ∀(d:Nat) (v:SV) (x:Value),rel ρ T w v x->rel (fun _=>none) (fun c=>T c/\c<N) w (frz d σ v) x
 |0,_,_,_=>trivial
 |d+1,v,x,h=>by
  have ih:=TB hst d
  have ihL: ∀(l:List SV) (m:List Value),aX ρ T w l m->aX (fun _=>none) (fun c=>T c/\c<N) w (l.map (frz d σ)) m:=by
   intro l
   induction l with
   |nil=>exact fun m h=>h
   |cons a l ihl=>
    rintro m ⟨y,r,e,h1,h2⟩
    exact ⟨y,r,e,ih a y h1,ihl r h2⟩
  have aLH: ∀v:SV,rel ρ T w v x->rel (fun _=>none) (fun c=>T c/\c<N) w (bif (ids v).isEmpty then v else .junk) x:=by
   intro v h
   cases hi:(ids v).isEmpty with
   |false=>exact trivial
   |true=>exact iW (fun _ _ h=>h) (fun _ _ h=>h.1) (bG.refl T w) _ _ (EG (ρ2:=fun _=>none) v x (gl.1 hi) h)
  have rowAt: ∀{b st i:Nat} {vs:Array Value} {e:TypeId} {f:Nat×Nat} {cs:List SV},w.heap[b]? =some (.cells vs e f)->aX (fun _=>none) (fun c=>T c/\c<N) w cs ((vs.toList.drop (i*st)).take st)->fJ (fun c=>T c/\c<N) w cs b (0+i*st):=by
   intro b st i vs e f cs hb hr
   rw [bi]
   refine eV hr fun j u hj=> ?_
   rw [fF hb]
   rw [br] at hj
   split at hj
   ·rw [bu] at hj
    simpa using hj
   ·cases hj
  unfold frz
  split
  ·rename_i id st len
   split
   ·rename_i e cs hs
    cases hc:Nat.ble (len*st) cs.length with
    |false=>exact trivial
    |true=>
     have hc:=cd hc
     obtain ⟨b,r1,⟨vs,r2,m,r,r3,r4⟩,hN⟩:=hst id _ hs
     obtain ⟨b',c,e1,rfl,e3,e4,_⟩:=h
     rw [r1] at e1;cases e1
     refine ⟨some ⟨b,0*st,none⟩,c,rfl,⟨e3,by omega,fun he=>by cases he⟩,fun hl=>⟨b,0,by rw [ce],(bk.1 r2).1,fun ht=>gh.2 hN ht.2,fun i hi=> ?_⟩⟩
     have hmin:Nat.min i (len - 1)=i:=Nat.min_eq_left (by omega)
     simp only [hmin]
     refine rowAt r2 (ihL _ _ ?_)
     have hlm:=bV r4
     have hcut:=jI (i*st) st r4
     have:(vs.toList.drop (i*st)).take st=(m.drop (i*st)).take st:=by
      rw [r3]
      have h1:i*st+st<=len*st:=by
       have:(i+1)*st<=len*st:=bj _ hi
       rw [bp,cj] at this;exact this
      rw [di (by omega),da (by rw [dc];omega)]
     rw [this]
     exact hcut
   ·rename_i e st' n g hs
    cases hc:Nat.beq st' st&&Nat.ble len n with
    |false=>exact trivial
    |true=>
     simp only [af] at hc
     obtain rfl:=ai hc.1
     have hc:=cd hc.2
     obtain ⟨b,r1,⟨vs,r2,r3,r4⟩,hN⟩:=hst id _ hs
     obtain ⟨b',c,e1,rfl,e3,e4,_⟩:=h
     rw [r1] at e1;cases e1
     refine ⟨some ⟨b,0*st',none⟩,c,rfl,⟨e3,by omega,fun he=>by cases he⟩,fun hl=>⟨b,0,by rw [ce],(bk.1 r2).1,fun ht=>gh.2 hN ht.2,fun i hi=> ?_⟩⟩
     exact rowAt r2 (bB (T':=fun c=>T c/\c<N) (fun _ _ h=>h) (fun _ _ h=>h.1) (bG.refl T w) _ _ (r4 i (by omega)))
   ·exact trivial
  ·rename_i id len cap
   split
   ·rename_i e cs hs
    cases hc:Nat.ble len cap with
    |false=>exact trivial
    |true=>
     have hc:=cd hc
     obtain ⟨b,r1,⟨vs,r2,r3⟩,hN⟩:=hst id _ hs
     obtain ⟨⟨b',e1,rfl⟩,e2⟩:=h
     rw [r1] at e1;cases e1
     refine ⟨some ⟨b,0,none⟩,cap,rfl,⟨hc,e2,fun he=>by cases he⟩,fun hl=>⟨b,0,rfl,(bk.1 r2).1,fun ht=>gh.2 hN ht.2,fun i hi=> ?_⟩⟩
     have hmin:Nat.min i (len - 1)=i:=Nat.min_eq_left (by omega)
     simp only [hmin]
     exact rowAt r2 (ihL _ _ (jI (i*(cs.length/len)) (cs.length/len) r3))
   ·exact trivial
  ·obtain ⟨a,rfl,h1⟩:=h
   exact ⟨a,rfl,ihL _ _ h1⟩
  ·obtain ⟨a,rfl,h1⟩:=h
   exact ⟨a,rfl,ihL _ _ h1⟩
  ·exact aLH _ h
end
theorem HD{k:FuncId}{xs:List SV}{v:SV}{σ':List (Option SB)}(d:Nat)(h:aE P k xs [] v σ' []):aE P k xs [] (frz d σ' v) [] []:=by
 intro ρ T w vals h1 h2 h3 h4
 refine (h ρ T w vals h1 h2 h3 h4).mono fun x w' ⟨ρ',T',hd⟩=> ?_
 have hρ: ∀p,ρ p=none:=fun p=>by
  cases hp:ρ p with
  |none=>rfl
  |some b=>exact absurd (h4 p b hp).1 (dn _)
 have hfr: ∀p b,ρ' p=some b->w.heap.size<=b:=fun p b hp=>by
  rcases hd.fresh p b (cn _) hp with h|⟨q,hq,_⟩
  ·exact h
  ·cases hq
 exact ⟨fun _=>none,fun c=>T' c/\c<w.heap.size,{
  names:=fun p b hp=>by rw [hρ] at hp;cases hp
  only:=fun p b hp=>by cases hp
  len:=av _
  val:=TB (fun p sb hp=>let ⟨b,e1,_,e3⟩:=hd.store p sb hp;⟨b,e1,e3,hfr p b e1⟩) d v x hd.val
  store:=fun p sb hp=>by simp at hp
  fresh:=fun p b _ hp=>by cases hp
  inj:=fun p q b _ _ hp=>by cases hp
  dirty:=fun p hp=>by cases hp
  grow:=hd.grow
  tback:=fun c hc ht=>hd.tback c hc ht.1
  below:=fun p b hp=>by cases hp
  tkeep:=fun c hc ht=>by
   rcases hd.tkeep c hc ht with h|⟨q,hq,_⟩
   ·exact .inl ⟨h,hc⟩
   ·cases hq}⟩
end Go.Se
namespace Go.Se
def le :Nat->Int->List Int
 |0,_=>[]
 |n+1,x=>x%256::le n (x/256)
section
variable {P:Program}
end
end Go.Se
namespace Go.Se
variable {P:Program}
structure Fz where
 t:Nat
 p:List Nat
 k:Option Nat
 df:List SV
def fzN(df:List SV):Nat->List SV:=fun _=>df
def fzG(n len:Nat)(df:List SV)(g:Nat->List SV):Nat->List SV:=fun i=>bif Nat.blt i n then g i else bif Nat.blt i len then [] else df
def WN(s:eD)(df:List SV):SV->Option (SV×Option Nat)
 | .nils=>some (.ro 0 df.length (fzN df),none)
 | .ro n st g=>some (.ro n st g,none)
 | .own b 0 st' len=>match aO s b with
  |some (.row _ st'' n g)=>bif Nat.beq st'' st' then some (.ro len st' (fzG n len df g),some b) else none
  |_=>none
 |_=>none
def LP :List SV->Nat->SV->List SV
 | [],_,_=>[]
 |_::cs,0,v=>v::cs
 |c::cs,k+1,v=>c::LP cs k v
def DH(n0:Nat)(s:eD):Option Nat->Option eD
 |none=>some s
 |some b=>bif Nat.ble n0 b then some ((b,none)::s) else none
def fz1(n0:Nat):Fz->St->Option St
 |⟨t,p,ko,df⟩,s=>match ko with
  |none=>match WN s.store df (get s.tmps t) with
   |some (v,d)=>match DH n0 s.store d with
    |some r=>some ⟨(t,v)::s.tmps,r,s.nxt,s.dirty,s.nt⟩
    |none=>none
   |none=>none
  |some k=>match aGw (JW s.store (get s.tmps t) p) with
   |some i=>match aO s.store i with
    |some (.cells e cs)=>match WN s.store df (nth cs k) with
     |some (v,d)=>match DH n0 ((i,some (.cells e (LP cs k v)))::s.store) d with
      |some r=>some ⟨s.tmps,r,s.nxt,s.dirty,s.nt⟩
      |none=>none
     |none=>none
    |_=>none
   |none=>none
def fzP(n0:Nat):List Fz->St->Option St
 | [],s=>some s
 |f::r,s=>match fz1 n0 f s with
  |some s=>fzP n0 r s
  |none=>none
theorem BR{ρ:aL}{T T2:Nat->Prop}{w:World}(hm: ∀(a:SV) (x:Value),rel ρ T w a x->rel ρ T2 w a x){v:SV}: ∀(cs:List SV) (k:Nat) (l:List Value),aX ρ T w cs l->(∀x,rel ρ T w (nth cs k) x->rel ρ T2 w v x)->aX ρ T2 w (LP cs k v) l
 | [],_,_,h,_=>h
 |c::cs,0,_,⟨x,r,e,h1,h2⟩,hv=>⟨x,r,e,hv x h1,by
   have: ∀(l:List SV) (m:List Value),aX ρ T w l m->aX ρ T2 w l m:=fun l=>by
    induction l with
    |nil=>exact fun _ h=>h
    |cons a l ih=>rintro m ⟨y,s,e,h1,h2⟩;exact ⟨y,s,e,hm a y h1,ih s h2⟩
   exact this _ _ h2⟩
 |c::cs,k+1,_,⟨x,r,e,h1,h2⟩,hv=>⟨x,r,e,hm c x h1,BR hm cs k r h2 hv⟩
theorem wV(i:Nat)(o:Option SB)(s:eD)(id:Nat):aO ((i,o)::s) id=if id=i then o else aO s id:=by
 simp only [aO]
 by_cases h:id=i
 ·subst h;simp
 ·rw [if_neg h,show Nat.beq i id=false by rw [cf];intro e;exact h (ai e).symm];rfl
theorem aCy {B:mW P} {tm:Nat->SV} {s:eD} {A:Nat->Prop} {D:List Nat} {nt:Nat} {a:Act} {w:World} {ρ:aL} {T:Nat->Prop} (h:iL B tm (aO s) A D nt a w ρ T)
  {df:List SV} {u v:SV} {d:Option Nat} (hf:WN s df u=some (v,d)) (hd: ∀b,d=some b->B.n<=b):
  ∃T2:Nat->Prop,(∀c,T2 c->T c)/\(∀x,rel ρ T w u x->rel ρ T2 w v x)/\(∀c,T c->T2 c\/ ∃b,d=some b/\ρ b=some c)/\(∀b,d=some b->(aO s b).isSome/\(∃e st n g,aO s b=some (.row e st n g))/\ ∀c,ρ b=some c-> ¬T2 c):=by
 unfold WN at hf
 split at hf
 ·cases hf
  exact ⟨T,fun _ h=>h,fun x hx=>iP hx,fun c hc=> .inl hc,fun b hb=>by cases hb⟩
 ·cases hf
  exact ⟨T,fun _ h=>h,fun x hx=>hx,fun c hc=> .inl hc,fun b hb=>by cases hb⟩
 ·rename_i b st' len
  split at hf
  ·rename_i e st'' n g hl
   cases hb:Nat.beq st'' st' with
   |false=>rw [hb] at hf;cases hf
   |true=>
    rw [hb] at hf
    obtain rfl:=ai hb
    cases hf
    obtain ⟨_,bb,r1,r2,vs,r3,r4,r5⟩:=h.store b _ hl
    refine ⟨fun c=>T c/\c≠bb,fun _ h=>h.1,fun x hx=> ?_,fun c hc=> ?_,fun b' hb'=> ?_⟩
    ·obtain ⟨b1,c,e1,rfl,e3,e4,_⟩:=hx
     rw [r1] at e1;cases e1
     refine ⟨some ⟨bb,0*st'',none⟩,c,rfl,⟨e3,by omega,fun he=>by cases he⟩,fun hlen=>⟨bb,0,by rw [ce],(bk.1 r3).1,fun ht=>ht.2 rfl,fun i hi=> ?_⟩⟩
     show fJ _ w (bif Nat.blt i n then g i else bif Nat.blt i len then [] else df) bb _
     cases hin:Nat.blt i n with
     |false=>
      rw [show Nat.blt i len=true by simpa using hi]
      exact trivial
     |true=>
      have hin:i<n:=by simpa using hin
      have hr:=bB (T':=fun c=>T c/\c≠bb) (fun _ _ h=>h) (fun _ _ h=>h.1) (bG.refl T w) _ _ (r5 i hin)
      rw [bi]
      refine eV hr fun j u hj=> ?_
      rw [fF r3]
      rw [br] at hj
      split at hj
      ·rw [bu] at hj
       simpa using hj
      ·cases hj
    ·by_cases hc2:c=bb
     ·exact .inr ⟨b,rfl,by rw [hc2];exact r1⟩
     ·exact .inl ⟨hc,hc2⟩
    ·cases hb'
     refine ⟨by rw [hl];rfl,⟨_,_,_,_,hl⟩,fun c hc=> ?_⟩
     rw [r1] at hc;cases hc
     exact fun ht=>ht.2 rfl
  ·cases hf
 ·cases hf
theorem QU {B:mW P} {tm tm2:Nat->SV} {s s2 r:eD} {A:Nat->Prop} {D:List Nat} {nt:Nat} {a:Act} {w:World} {ρ:aL} {T T2:Nat->Prop} (h:iL B tm (aO s) A D nt a w ρ T) {d:Option Nat}
  (hT: ∀c,T2 c->T c) (hback: ∀c,T c->T2 c\/ ∃b,d=some b/\ρ b=some c) (hd: ∀b,d=some b->(aO s b).isSome/\B.n<=b/\ ∀c,ρ b=some c-> ¬T2 c)
  (ht: ∀t,rel ρ T2 w (tm2 t) (a.tmps.getD t undef)) (hs: ∀id sb,aO s2 id=some sb->(aO s id).isSome/\ ∀c,ρ id=some c->fV ρ T2 w sb c) (hn: ∀id,aO s id=none->aO s2 id=none)
  (hr:DH B.n s2 d=some r):iL B tm2 (aO r) A D nt a w ρ T2:=by
 have hlook: ∀id,aO r id=aO s2 id\/(d=some id/\aO r id=none):=fun id=>by
  unfold DH at hr
  split at hr
  ·cases hr;exact .inl rfl
  ·rename_i b
   cases hc:Nat.ble B.n b with
   |false=>rw [hc] at hr;cases hr
   |true=>
    rw [hc] at hr
    cases hr
    rw [wV]
    by_cases hid:id=b
    ·exact .inr ⟨by rw [hid],if_pos hid⟩
    ·exact .inl (if_neg hid)
 have hnone: ∀id,aO s id=none->aO r id=none:=fun id hid=>by
  rcases hlook id with h1|h1
  ·rw [h1];exact hn id hid
  ·exact h1.2
 have hsome: ∀id,(aO r id).isSome->(aO s id).isSome/\d≠some id:=fun id hid=>by
  obtain ⟨sb,hsb⟩:=db.1 hid
  rcases hlook id with h1|h1
  ·refine ⟨(hs id sb (by rw [<- h1];exact hsb)).1,fun hd2=> ?_⟩
   subst hd2
   unfold DH at hr
   simp only at hr
   cases hc:Nat.ble B.n id with
   |false=>rw [hc] at hr;cases hr
   |true=>
    rw [hc] at hr
    cases hr
    rw [wV,if_pos rfl] at hsb;cases hsb
  ·rw [h1.2] at hsb;cases hsb
 exact {
  defers:=h.defers.grow (fun c _ h=>hT c h) (bG.refl T w)
  size:=h.size
  tmps:=ht
  store:=fun id sb hid=>by
   obtain ⟨k1,k2⟩:=hsome id (by rw [hid];rfl)
   have hid2:aO s2 id=some sb:=by
    rcases hlook id with h1|h1
    ·rw [<- h1];exact hid
    ·rw [h1.2] at hid;cases hid
   obtain ⟨sb0,hsb0⟩:=db.1 k1
   obtain ⟨hA,c,e1,e2,_⟩:=h.store id sb0 hsb0
   refine ⟨hA,c,e1, ?_,(hs id sb hid2).2 c e1⟩
   rcases hback c e2 with h3|⟨b,h3,h4⟩
   ·exact h3
   ·have:=h.inj id b c k1 (hd b h3).1 e1 h4
    subst this
    exact absurd h3 k2
  names:=h.names
  inj:=fun i j c hi hj=>h.inj i j c (hsome i hi).1 (hsome j hj).1
  base:=h.base
  full:=h.full
  grow:=h.grow
  old:=h.old
  tback:=fun c hc ht=>h.tback c hc (hT c ht)
  tkeep:=fun c hc hbt=>by
   rcases h.tkeep c hc hbt with h1|⟨q,q1,q2,q3,q4⟩
   ·rcases hback c h1 with h2|⟨b,h2,h3⟩
    ·exact .inl h2
    ·obtain ⟨k1,k2,_⟩:=hd b h2
     rcases h.fresh b c k1 k2 h3 with h4|⟨q,q1,q2,q3,q4⟩
     ·omega
     ·exact .inr ⟨q,q1,q2,hnone q q3,q4⟩
   ·exact .inr ⟨q,q1,q2,hnone q q3,q4⟩
  fresh:=fun id c h1 h2 h3=>(h.fresh id c (hsome id h1).1 h2 h3).imp (fun x=>x) fun ⟨q,q1,q2,q3,q4⟩=>⟨q,q1,q2,hnone q q3,q4⟩
  inv:=fun g v hg=>⟨fun ht=>(h.inv g v hg).1 (hT _ ht),(h.inv g v hg).2⟩}
theorem zR{n0:Nat}{s r:eD}{d:Option Nat}(h:DH n0 s d=some r): ∀b,d=some b->n0<=b:=fun b hb=>by
 subst hb
 unfold DH at h
 simp only at h
 cases hc:Nat.ble n0 b with
 |false=>rw [hc] at h;cases h
 |true=>exact cd hc
theorem aFh{n0:Nat}{f:Fz}{s s':St}(h:fz1 n0 f s=some s'):GZ P n0 s s':=by
 rintro B act w rfl ⟨h1,ρ,T,hh⟩
 obtain ⟨ft,fp,fk,fdf⟩:=f
 simp only [fz1] at h
 split at h
 ·split at h
  ·rename_i v d hv
   split at h
   ·rename_i r hr
    cases h
    obtain ⟨T2,k1,k2,k3,k4⟩:=aCy hh hv (zR hr)
    have hmono: ∀(x:SV) (y:Value),rel ρ T w x y->rel ρ T2 w x y:=iW (fun _ _ h=>h) (fun c _ h=>k1 c h) (bG.refl T w)
    refine ⟨h1,ρ,T2,QU (s2:=s.store) hh k1 k3 (fun b hb=>⟨(k4 b hb).1,zR hr b hb,(k4 b hb).2.2⟩) (fun t=> ?_) (fun id sb hid=> ?_) (fun _ h=>h) hr⟩
    ·simp only [get]
     cases hb:Nat.beq ft t with
     |true=>
      obtain rfl:=ai hb
      exact k2 _ (hh.tmps _)
     |false=>exact hmono _ _ (hh.tmps t)
    ·refine ⟨by rw [hid];rfl,fun c hc=> ?_⟩
     obtain ⟨_,c',e1,_,e3⟩:=hh.store id sb hid
     rw [hc] at e1;cases e1
     exact rT (fun _ _ h=>h) (fun c _ h=>k1 c h) (bG.refl T w) rfl e3
   ·cases h
  ·cases h
 ·rename_i k
  split at h
  ·rename_i i hi
   split at h
   ·rename_i e cs hl
    split at h
    ·rename_i v d hv
     split at h
     ·rename_i r hr
      cases h
      obtain ⟨T2,k1,k2,k3,k4⟩:=aCy hh hv (zR hr)
      have hmono: ∀(x:SV) (y:Value),rel ρ T w x y->rel ρ T2 w x y:=iW (fun _ _ h=>h) (fun c _ h=>k1 c h) (bG.refl T w)
      refine ⟨h1,ρ,T2,QU (s2:=(i,some (.cells e (LP cs k v)))::s.store) hh k1 k3 (fun b hb=>⟨(k4 b hb).1,zR hr b hb,(k4 b hb).2.2⟩) (fun t=>hmono _ _ (hh.tmps t)) (fun id sb hid=> ?_) (fun id hid=> ?_) hr⟩
      ·rw [wV] at hid
       by_cases hii:id=i
       ·rw [if_pos hii] at hid
        cases hid
        subst hii
        refine ⟨by rw [hl];rfl,fun c hc=> ?_⟩
        obtain ⟨_,c',e1,_,vs,e3,e4⟩:=hh.store id _ hl
        rw [hc] at e1;cases e1
        exact ⟨vs,e3,BR hmono cs k _ e4 k2⟩
       ·rw [if_neg hii] at hid
        refine ⟨by rw [hid];rfl,fun c hc=> ?_⟩
        obtain ⟨_,c',e1,_,e3⟩:=hh.store id sb hid
        rw [hc] at e1;cases e1
        exact rT (fun _ _ h=>h) (fun c _ h=>k1 c h) (bG.refl T w) rfl e3
      ·rw [wV]
       by_cases hii:id=i
       ·rw [hii,hl] at hid;cases hid
       ·rw [if_neg hii];exact hid
     ·cases h
    ·cases h
   ·cases h
  ·cases h
theorem RF{n0:Nat}: ∀(l:List Fz) {s s':St},fzP n0 l s=some s'->GZ P n0 s s'
 | [],s,s',h=>by cases h;exact fun _ _ _ _ h=>h
 |f::r,s,s',h=>by
  simp only [fzP] at h
  split at h
  ·rename_i s1 hs1
   exact fun B a w hB hn=>RF r h B a w hB (aFh hs1 B a w hB hn)
  ·cases h
structure ON where
 k:eI
 m:List ((Nat×List Nat)×Nat):=[]
 f:List Fz:=[]
def fE(R:List (Nat×ON))(n0 blk:Nat)(s:St):Option St:=
 match R with
 | []=>some s
 |(b,k)::r=>bif Nat.beq b blk then (match BT n0 k.k.mv s with
   |some s=>match yI n0 k.m s with
    |some s=>match fzP n0 k.f s with
     |some s=>u3 n0 k.k s
     |none=>none
    |none=>none
   |none=>none) else fE r n0 blk s
theorem zX(n0:Nat): ∀R:List (Nat×ON),vG P n0 (fE R n0)
 | [],blk,s,s',h=>by cases h;exact fun _ _ _ _ h=>h
 |(b,k)::r,blk,s,s',h=>by
  simp only [fE] at h
  cases hb:Nat.beq b blk with
  |true=>
   rw [hb] at h
   simp only [ar] at h
   split at h
   ·rename_i s1 hs1
    split at h
    ·rename_i s2 hs2
     split at h
     ·rename_i s3 hs3
      exact fun B a w hB hn=>rK h B a w hB (RF _ hs3 B a w hB (oA _ hs2 B a w hB (nE _ hs1 B a w hB hn)))
     ·cases h
    ·cases h
   ·cases h
  |false=>rw [hb] at h;exact zX n0 r blk s s' h
end Go.Se
namespace Go.Se
variable {P:Program}
theorem GR {k:FuncId} {xs:List SV} {sb:SB} {T0:TypeId} {cs:List SV} {v:SV} {σ':List (Option SB)} {d:List Nat} (n:Nat) (hcs:ids.idsL cs=[]) (hσ: ∀p:Nat,σ'[p]? ≠some none)
  (h:aE P k xs [some sb] v (some (.cells T0 cs)::σ') d):aE P k xs [some sb] (frz n (none::σ') v) [some (.cells T0 cs)] d:=by
 intro ρ T w vals h1 h2 h3 h4
 refine (h ρ T w vals h1 h2 h3 h4).mono fun y w' ⟨ρ',T',hd⟩=> ?_
 obtain ⟨_,b0,_,z1,z2,z3⟩:=h2 0 (by simp)
 have hb0:=(h4.low 0 b0 z1).2
 have z4:=hd.names 0 b0 z1
 have hdead: ∀q:Nat,¬(some (SB.cells T0 cs)::σ')[q]? =some none:=fun q hq=>by
  match q,hq with
  |0,hq=>cases hq
  |q+1,hq=>exact hσ q (by simpa using hq)
 have hst: ∀p s,(none::σ':List (Option SB))[p]? =some (some s)-> ∃b,ρ' p=some b/\fV ρ' T' w' s b/\w.heap.size<=b:=fun p s hp=>by
  match p,hp with
  |0,hp=>cases hp
  |p+1,hp=>
   obtain ⟨b,e1,_,e3⟩:=hd.store (p+1) s (by simpa using hp)
   refine ⟨b,e1,e3, ?_⟩
   rcases hd.fresh (p+1) b (by simp) e1 with h|⟨q,_,hq,_⟩
   ·exact h
   ·exact absurd hq (hdead q)
 refine ⟨fun p=>if p=0 then ρ' 0 else none,fun c=>T' c/\c<w.heap.size,{
  names:=fun p c hp=>by
   have:=(h4.low p c hp).1
   have hp0:p=0:=by simp at this;exact this
   subst hp0
   rw [if_pos rfl];exact hd.names 0 c hp
  only:=fun p c hp=>by
   by_cases hp0:p=0
   ·subst hp0;simp
   ·rw [if_neg hp0] at hp;cases hp
  len:=by simp
  val:=iW (fun _ _ h=>by cases h) (fun _ _ h=>h) (bG.refl _ _) _ _ (TB hst n v y hd.val)
  store:=fun p s hp=>by
   match p,hp with
   |0,hp=>
    cases hp
    obtain ⟨b1,e1,e2,e3⟩:=hd.store 0 _ rfl
    rw [z4] at e1;cases e1
    refine ⟨b0,by rw [if_pos rfl];exact z4,⟨e2,hb0⟩, ?_⟩
    obtain ⟨vs0,f1,f2⟩:=e3
    exact ⟨vs0,f1,bB (ρ:=fun _=>none) (ρ':=fun p=>if p=0 then ρ' 0 else none) (T:=T') (fun _ _ h=>by cases h) (fun _ _ h=>h.1) (bG.refl T' w') _ _ (gO _ _ hcs f2)⟩
  fresh:=fun p c hp hb=>by
   rw [if_neg (by simp at hp;omega)] at hb;cases hb
  inj:=fun p q c hp _ hb=>by
   rw [if_neg (by simp at hp;omega)] at hb;cases hb
  dirty:=hd.dirty
  grow:=hd.grow
  tback:=fun c hc ht=>hd.tback c hc ht.1
  below:=fun p c hp=>by
   by_cases hp0:p=0
   ·subst hp0;rw [if_pos rfl] at hp;exact hd.below 0 c hp
   ·rw [if_neg hp0] at hp;cases hp
  tkeep:=fun c hc ht=>by
   rcases hd.tkeep c hc ht with h|⟨q,_,hq,_⟩
   ·exact .inl ⟨h,hc⟩
   ·exact absurd hq (hdead q)}⟩
theorem aCg{α:Type}{f:α->List SV}{d:α}{L:List α}{g:Nat->List SV}(hg: ∀j (h:j<L.length),g j=f L[j]):fzG L.length L.length (f d) g=aU f d L:=by
 funext i
 unfold fzG
 by_cases h:i<L.length
 ·rw [show Nat.blt i L.length=true by simpa using h,ar,hg i h,eN h]
 ·rw [show Nat.blt i L.length=false by rw [cf];intro e;exact h (by simpa using e),ap,ap]
  unfold aU
  rw [bc,dy (by omega)];rfl
end Go.Se
namespace Go.Proofs.YtghnfjfkjhbgdaaGreatDoor
open Go.Se
set_option maxRecDepth 100000
noncomputable abbrev aMv(R:List (Nat×ON))(u:Nat->Nat)(B:bT Tryz.prog)(n:Nat)(k:FuncId)(xs:List SV)(σ:List (Option SB))(K:KC):Prop:=
 calls (tab.env B u (fun _=>false)) (fE R) B.dom n k xs σ K
noncomputable abbrev aMC(R:List (Nat×ON))(u:Nat->Nat)(B:bT Tryz.prog)(n:Nat):Env:=
 {tab.env B u (fun _=>false) with callee:=calls (tab.env B u (fun _=>false)) (fE R) B.dom n,round:=fun xs σ K=>calls.roundsN (tab.env B u (fun _=>false)) (fE R) B.dom n xs σ K}
def gdD :List Nat:=[0,1,2,3,4,5,6,7,8,9,10,11,12,13,14,15,16,17,18,19,20,21,22,23,24]
def ugR :List (Nat×ON):=[(0,⟨⟨[1,2,3,46,47],[0,1,2,3,4],gdD,5,[]⟩,[((3,[6]),4)],[]⟩),(2,⟨⟨[1,2,3,62,63],[0,1,2,3,4],gdD,5,[]⟩,[((3,[7]),4)],[⟨3,[],some 6,[.int .i64 0]⟩]⟩),(4,⟨⟨[1,2,3,62,63,68,69,70],[0,1,2,3,4],gdD,5,[]⟩,[((3,[7]),4)],[]⟩)]
noncomputable abbrev ugE :Env:=aMC ugR (fun _=>0) o5 3
noncomputable abbrev ugF :Func:=Tryz.f32
abbrev QJ :List Nat:=[1,1,1,1,1,1,1,0,1,0]
abbrev oU :List Nat:=[1,1,1,1,1,1,1,1,0,1,0]
abbrev AI :List Nat:=[1,1,0,0,1,0]
def ugC(a1 a2 a3 a4 x y:Int)(h g k:SV):List SV:=[.int .i64 a1,.int .i64 a2,.int .i64 a3,.int .i64 a4,.int .i64 x,.int .i64 y,h,g,k,.nils,.nils,.nils,.int .i64 0,.int .i64 0,.int .u32 0,.int .i64 0]
def ugS(ts:List (Nat×SV))(C:List SV)(all:Int)(b:Bk)(r:Option SB):St:=⟨(1,.ptr 1 0)::(2,.ptr 2 0)::(3,.ptr 3 0)::ts,[(0,some (.cells 130 (bkC all b))),(1,some (.cells 71 [.ptr 0 0])),(2,some (.cells 34 (ugC 0 0 0 0 0 0 .nils .nils .nils))),(3,some (.cells 34 C)),(4,r)],5,gdD,91⟩
theorem aDw(b:Bk)(all:Int)(K:KC):aMv ugR (fun _=>0) o5 4 32 [.agg [.ptr 0 0]] [some (.cells 130 (bkC all b))] K=
 (∃(e400:Bk),∃(e399:Int),∃(e398:Nat),(((bkC all b)=bkC e399 e400/\1=(↑e398:Int))/\aR e400/\dH e399/\0<e398/\e398<=1000)/\(∀(p396:List (List Int)),∀(b'395:Bk),∀(_:xX e399 e400 (⟨#[114,97,116,101]⟩:ByteArray) e398 p396 b'395),Br (true&&decide (0<(↑e398:Int))) (∃(e392:Bk),∃(e391:Int),((bkC e399 b'395)=bkC e391 e392)/\(∀(v389:Int),∀(b'388:Bk),∀(_:RE e392 (bytesOf (p396.getD (Int.toNat 0) [])) 60 1024 v389 b'388),∃(e386:Bk),∃(e385:Int),∃(e384:Nat),(((bkC e391 b'388)=bkC e385 e386/\1=(↑e384:Int))/\aR e386/\dH e385/\0<e384/\e384<=1000)/\(∀(p382:List (List Int)),∀(b'381:Bk),∀(_:xX e385 e386 (⟨#[99,101,108,108]⟩:ByteArray) e384 p382 b'381),Br (true&&decide (0<(↑e384:Int))) (∃(e378:Bk),∃(e377:Int),((bkC e385 b'381)=bkC e377 e378)/\(∀(v375:Int),∀(b'374:Bk),∀(_:U3 e378 (bytesOf (p382.getD (Int.toNat 0) [])) v375 b'374),∃(e372:Bk),∃(e371:Int),∃(e370:Nat),(((bkC e377 b'374)=bkC e371 e372/\2=(↑e370:Int))/\aR e372/\dH e371/\0<e370/\e370<=1000)/\(∀(p368:List (List Int)),∀(b'367:Bk),∀(_:xX e371 e372 (⟨#[115,105,122,101]⟩:ByteArray) e370 p368 b'367),Br (true&&decide (0<(↑e370:Int))) (∃(e364:Bk),∃(e363:Int),((bkC e371 b'367)=bkC e363 e364)/\(∀(v361:Int),∀(b'360:Bk),∀(_:RE e364 (bytesOf (p368.getD (Int.toNat 0) [])) 1 64 v361 b'360),Br (true&&decide (1<(↑e370:Int))) (∃(e357:Bk),∃(e356:Int),((bkC e363 b'360)=bkC e356 e357)/\(∀(v354:Int),∀(b'353:Bk),∀(_:RE e357 (bytesOf (p368.getD (Int.toNat 1) [])) 1 64 v354 b'353),∃(e351:Bk),∃(e350:Int),∃(e349:Nat),(((bkC e356 b'353)=bkC e350 e351/\2=(↑e349:Int))/\aR e351/\dH e350/\0<e349/\e349<=1000)/\(∀(p347:List (List Int)),∀(b'346:Bk),∀(_:xX e350 e351 (⟨#[99,111,114,110,101,114]⟩:ByteArray) e349 p347 b'346),∃(e344:List (List Int)),∃(e343:Bk),∃(e342:Int),((bkC e350 b'346)=bkC e342 e343/\aG p347=aG e344/\2<=e349)/\(∀(x340:Int),∀(y339:Int),∀(b'338:Bk),∀(_:OO e343 e344 x340 y339 b'338),∃q_,aV ugE (fE ugR 1) ugF QJ 0 1 K q_ (ugS [(46,SV.int .i64 (IntKind.i64.wrap (v354+1))),(47,SV.int .i64 0)] (ugC v389 v375 v361 v354 x340 y339 (SV.nils) (SV.nils) SV.nils) e342 b'338 (none)))))) (False))) (False)))) (False)))) (False))):=by kernel_rfl
theorem aLv(a1 a2 a3 a4 x y n:Int)(all:Int)(b:Bk)(i:Nat)(K:Ex->St->Prop):aF ugE (fE ugR 1) ugF QJ 0 K (ugS [(46,.int .i64 n),(47,.int .i64 i)] (ugC a1 a2 a3 a4 x y .nils .nils .nils) all b none)=
 (Br (decide ((↑i:Int)<n)) (∃(e399:Bk),∃(e398:Int),∃(e397:Nat),(((bkC all b)=bkC e398 e399/\IntKind.i64.wrap (a3+1)=(↑e397:Int))/\aR e399/\dH e398/\0<e397/\e397<=1000)/\(∀(p395:List (List Int)),∀(b'394:Bk),∀(_:xX e398 e399 (⟨#[104,101,105,103,104,116,115]⟩:ByteArray) e397 p395 b'394),∃(e392:List (List Int)),∃(e391:Bk),∃(e390:Int),(((bkC e398 b'394)=bkC e390 e391/\e397=e392.length/\aG p395=aG e392)/\e392.length<=1000)/\(∀(L388:List Int),∀(b'387:Bk),∀(_:aLa e391 e392 L388 b'387),(∀(i:Nat),i<e397->(aU cV 0 L388 i).length=1/\(aU cV 0 L388 i).all bE=true)/\(Br (true&&(decide (e397*8<=1099511627776)&&decide (e397<9223372036854775808))) (Br (decide (0<e397)) (K Ex.normal (ugS [(46,SV.int .i64 n),(47,SV.int .i64 (IntKind.i64.wrap ((↑i:Int)+1)))] (ugC a1 a2 a3 a4 x y (SV.own 4 0 1 e397) (SV.nils) SV.nils) e390 b'387 (some (SB.row 22 1 e397 (aU cV 0 L388))))) (K Ex.normal (ugS [(46,SV.int .i64 n),(47,SV.int .i64 (IntKind.i64.wrap ((↑i:Int)+1)))] (ugC a1 a2 a3 a4 x y (SV.nils) (SV.nils) SV.nils) e390 b'387 (none)))) (False))))) (K (Ex.exit 0) (ugS [(46,SV.int .i64 n),(47,SV.int .i64 (↑i:Int))] (ugC a1 a2 a3 a4 x y (SV.nils) (SV.nils) SV.nils) all b (none)))):=by kernel_rfl
theorem aEj(a1 a2 a3 a4 x y n:Int)(all:Int)(b:Bk)(i m:Nat)(g:Nat->List SV)(K:Ex->St->Prop):aF ugE (fE ugR 1) ugF QJ 0 K (ugS [(46,.int .i64 n),(47,.int .i64 i)] (ugC a1 a2 a3 a4 x y (.own 4 0 1 m) .nils .nils) all b (some (.row 22 1 m g)))=
 (Br (decide ((↑i:Int)<n)) (∃(e399:Bk),∃(e398:Int),∃(e397:Nat),(((bkC all b)=bkC e398 e399/\IntKind.i64.wrap (a3+1)=(↑e397:Int))/\aR e399/\dH e398/\0<e397/\e397<=1000)/\(∀(p395:List (List Int)),∀(b'394:Bk),∀(_:xX e398 e399 (⟨#[104,101,105,103,104,116,115]⟩:ByteArray) e397 p395 b'394),∃(e392:List (List Int)),∃(e391:Bk),∃(e390:Int),(((bkC e398 b'394)=bkC e390 e391/\e397=e392.length/\aG p395=aG e392)/\e392.length<=1000)/\(∀(L388:List Int),∀(b'387:Bk),∀(_:aLa e391 e392 L388 b'387),(∀(i:Nat),i<e397->(aU cV 0 L388 i).length=1/\(aU cV 0 L388 i).all bE=true)/\(Br (true&&decide (m=m)&&(decide ((m+e397)*8<=1099511627776)&&decide (m+e397<9223372036854775808))) (K Ex.normal (ugS [(46,SV.int .i64 n),(47,SV.int .i64 (IntKind.i64.wrap ((↑i:Int)+1)))] (ugC a1 a2 a3 a4 x y (SV.own 4 0 1 (m+e397)) (SV.nils) SV.nils) e390 b'387 (some (SB.row 22 1 (m+e397) (qM m g (aU cV 0 L388)))))) (False))))) (K (Ex.exit 0) (ugS [(46,SV.int .i64 n),(47,SV.int .i64 (↑i:Int))] (ugC a1 a2 a3 a4 x y (SV.own 4 0 1 m) (SV.nils) SV.nils) all b (some (SB.row 22 1 m g))))):=by kernel_rfl
theorem aJg(a1 a2 a3 a4 x y n:Int)(all:Int)(b:Bk)(i m:Nat)(g:Nat->List SV)(K:KC):aB ugE (fE ugR 1) ugF QJ 1 K (.exit 0) (ugS [(46,.int .i64 n),(47,.int .i64 i)] (ugC a1 a2 a3 a4 x y (.own 4 0 1 m) .nils .nils) all b (some (.row 22 1 m g)))=
 (∃q_,aV ugE (fE ugR 1) ugF oU 2 1 K q_ (ugS [(62,SV.int .i64 a4),(63,SV.int .i64 0)] (ugC a1 a2 a3 a4 x y (SV.ro m 1 (fzG m m [SV.int .i64 0] g)) (SV.nils) SV.nils) all b (none))):=by kernel_rfl
theorem aC8(a1 a2 a3 a4 x y n:Int)(nh:Nat)(h:Nat->List SV)(all:Int)(b:Bk)(i:Nat)(K:Ex->St->Prop):aF ugE (fE ugR 1) ugF oU 2 K (ugS [(62,.int .i64 n),(63,.int .i64 i)] (ugC a1 a2 a3 a4 x y (.ro nh 1 h) .nils .nils) all b none)=
 (Br (decide ((↑i:Int)<n)) (∃(e399:Bk),∃(e398:Int),∃(e397:Nat),(((bkC all b)=bkC e398 e399/\a3=(↑e397:Int))/\aR e399/\dH e398/\0<e397/\e397<=1000)/\(∀(p395:List (List Int)),∀(b'394:Bk),∀(_:xX e398 e399 (⟨#[103,114,111,117,110,100]⟩:ByteArray) e397 p395 b'394),∃q_,iter (aF ugE (fE ugR 1) ugF (oU++[0]++AI) 4) (iM ugE (fE ugR 1) ugF oU 2 AI K) q_ (ugS [(62,SV.int .i64 n),(63,SV.int .i64 (↑i:Int)),(68,SV.ro e397 1 (aG p395)),(69,SV.int .i64 (↑e397:Int)),(70,SV.int .i64 0)] (ugC a1 a2 a3 a4 x y (SV.ro nh 1 h) (SV.nils) SV.nils) e398 b'394 (none)))) (K (Ex.exit 2) (ugS [(62,SV.int .i64 n),(63,SV.int .i64 (↑i:Int))] (ugC a1 a2 a3 a4 x y (SV.ro nh 1 h) (SV.nils) SV.nils) all b (none)))):=by kernel_rfl
theorem aEo(a1 a2 a3 a4 x y n:Int)(nh:Nat)(h:Nat->List SV)(all:Int)(b:Bk)(i m:Nat)(g:Nat->List SV)(K:Ex->St->Prop):aF ugE (fE ugR 1) ugF oU 2 K (ugS [(62,.int .i64 n),(63,.int .i64 i)] (ugC a1 a2 a3 a4 x y (.ro nh 1 h) (.own 4 0 1 m) .nils) all b (some (.row 3 1 m g)))=
 (Br (decide ((↑i:Int)<n)) (∃(e399:Bk),∃(e398:Int),∃(e397:Nat),(((bkC all b)=bkC e398 e399/\a3=(↑e397:Int))/\aR e399/\dH e398/\0<e397/\e397<=1000)/\(∀(p395:List (List Int)),∀(b'394:Bk),∀(_:xX e398 e399 (⟨#[103,114,111,117,110,100]⟩:ByteArray) e397 p395 b'394),∃q_,iter (aF ugE (fE ugR 1) ugF (oU++[0]++AI) 4) (iM ugE (fE ugR 1) ugF oU 2 AI K) q_ (ugS [(62,SV.int .i64 n),(63,SV.int .i64 (↑i:Int)),(68,SV.ro e397 1 (aG p395)),(69,SV.int .i64 (↑e397:Int)),(70,SV.int .i64 0)] (ugC a1 a2 a3 a4 x y (SV.ro nh 1 h) (SV.own 4 0 1 m) SV.nils) e398 b'394 (some (SB.row 3 1 m g))))) (K (Ex.exit 2) (ugS [(62,SV.int .i64 n),(63,SV.int .i64 (↑i:Int))] (ugC a1 a2 a3 a4 x y (SV.ro nh 1 h) (SV.own 4 0 1 m) SV.nils) all b (some (SB.row 3 1 m g))))):=by kernel_rfl
abbrev ugT(n:Int)(i:Nat)(l:Nat)(p:List (List Int))(k:Nat):List (Nat×SV):=[(62,.int .i64 n),(63,.int .i64 i),(68,.ro l 1 (aG p)),(69,.int .i64 l),(70,.int .i64 k)]
theorem aJL(a1 a2 a3 a4 x y n:Int)(nh:Nat)(h:Nat->List SV)(all:Int)(b:Bk)(i l k:Nat)(p:List (List Int))(K:Ex->St->Prop):aF ugE (fE ugR 1) ugF (oU++[0]++AI) 4 K (ugS (ugT n i l p k) (ugC a1 a2 a3 a4 x y (.ro nh 1 h) .nils .nils) all b none)=
 (Br (decide ((↑k:Int)<(↑l:Int))) (Br (decide (0<=(↑k:Int))&&decide ((↑k:Int)<(↑l:Int))) (∃(e398:Bk),∃(e397:Int),((bkC all b)=bkC e397 e398)/\(∀(v395:Int),∀(b'394:Bk),∀(_:RE e398 (bytesOf (p.getD (↑k:Int).toNat [])) 0 7 v395 b'394),K Ex.normal (ugS [(62,SV.int .i64 n),(63,SV.int .i64 (↑i:Int)),(68,SV.ro l 1 (aG p)),(69,SV.int .i64 (↑l:Int)),(70,SV.int .i64 (IntKind.i64.wrap ((↑k:Int)+1)))] (ugC a1 a2 a3 a4 x y (SV.ro nh 1 h) (SV.own 4 0 1 1) SV.nils) e397 b'394 (some (SB.row 3 1 1 fun (i:Nat)=>cut [SV.int .i64 v395] (i*1) 1))))) (False)) (K (Ex.exit 4) (ugS [(62,SV.int .i64 n),(63,SV.int .i64 (↑i:Int)),(68,SV.ro l 1 (aG p)),(69,SV.int .i64 (↑l:Int)),(70,SV.int .i64 (↑k:Int))] (ugC a1 a2 a3 a4 x y (SV.ro nh 1 h) (SV.nils) SV.nils) all b (none)))):=by kernel_rfl
theorem aBM(a1 a2 a3 a4 x y n:Int)(nh:Nat)(h:Nat->List SV)(all:Int)(b:Bk)(i l k m:Nat)(g:Nat->List SV)(p:List (List Int))(K:Ex->St->Prop):aF ugE (fE ugR 1) ugF (oU++[0]++AI) 4 K (ugS (ugT n i l p k) (ugC a1 a2 a3 a4 x y (.ro nh 1 h) (.own 4 0 1 m) .nils) all b (some (.row 3 1 m g)))=
 (Br (decide ((↑k:Int)<(↑l:Int))) (Br (decide (0<=(↑k:Int))&&decide ((↑k:Int)<(↑l:Int))) (∃(e398:Bk),∃(e397:Int),((bkC all b)=bkC e397 e398)/\(∀(v395:Int),∀(b'394:Bk),∀(_:RE e398 (bytesOf (p.getD (↑k:Int).toNat [])) 0 7 v395 b'394),Br (decide ((m+1)*8<=1099511627776)&&decide (m+1<9223372036854775808)&&decide (m=m)) (K Ex.normal (ugS [(62,SV.int .i64 n),(63,SV.int .i64 (↑i:Int)),(68,SV.ro l 1 (aG p)),(69,SV.int .i64 (↑l:Int)),(70,SV.int .i64 (IntKind.i64.wrap ((↑k:Int)+1)))] (ugC a1 a2 a3 a4 x y (SV.ro nh 1 h) (SV.own 4 0 1 (m+1)) SV.nils) e397 b'394 (some (SB.row 3 1 (m+1) (bK m [SV.int .i64 v395] g))))) (False))) (False)) (K (Ex.exit 4) (ugS [(62,SV.int .i64 n),(63,SV.int .i64 (↑i:Int)),(68,SV.ro l 1 (aG p)),(69,SV.int .i64 (↑l:Int)),(70,SV.int .i64 (↑k:Int))] (ugC a1 a2 a3 a4 x y (SV.ro nh 1 h) (SV.own 4 0 1 m) SV.nils) all b (some (SB.row 3 1 m g))))):=by kernel_rfl
theorem aJt(a1 a2 a3 a4 x y n:Int)(nh:Nat)(h:Nat->List SV)(all:Int)(b:Bk)(i l k m:Nat)(g:Nat->List SV)(p:List (List Int))(K:Ex->St->Prop):iM ugE (fE ugR 1) ugF oU 2 AI K (.exit 4) (ugS (ugT n i l p k) (ugC a1 a2 a3 a4 x y (.ro nh 1 h) (.own 4 0 1 m) .nils) all b (some (.row 3 1 m g)))=
 (K Ex.normal (ugS [(62,SV.int .i64 n),(63,SV.int .i64 (IntKind.i64.wrap ((↑i:Int)+1)))] (ugC a1 a2 a3 a4 x y (SV.ro nh 1 h) (SV.own 4 0 1 m) SV.nils) all b (some (SB.row 3 1 m g)))):=by kernel_rfl
theorem aI4(a1 a2 a3 a4 x y n:Int)(nh:Nat)(h:Nat->List SV)(all:Int)(b:Bk)(i:Nat)(K:KC):aB ugE (fE ugR 1) ugF oU 1 K (.exit 2) (ugS [(62,.int .i64 n),(63,.int .i64 i)] (ugC a1 a2 a3 a4 x y (.ro nh 1 h) .nils .nils) all b none)=
 (∃(e400:Bk),∃(e399:Int),∃(e398:Nat),(((bkC all b)=bkC e399 e400/\8=(↑e398:Int)/\79=79)/\aR e400/\dH e399/\e398<=1000)/\(∀(L396:List (Int×Int×Bool)),∀(b'395:Bk),∀(_:VG (⟨#[107,105,110,100]⟩:ByteArray) (j0 e399) e398 e400 L396 b'395),K (SV.agg [SV.int .i64 a1,SV.int .i64 a2,SV.int .i64 a3,SV.int .i64 a4,SV.int .i64 x,SV.int .i64 y,SV.ro nh 1 h,SV.nils,SV.ro L396.length 3 (aU kiL (0,0,false) L396),SV.nils,SV.nils,SV.nils,SV.int .i64 0,SV.int .i64 0,SV.int .u32 0,SV.int .i64 0]) [some (SB.cells 130 (bkC e399 b'395))] [0])):=by kernel_rfl
theorem aJb(a1 a2 a3 a4 x y n:Int)(nh:Nat)(h:Nat->List SV)(all:Int)(b:Bk)(i m:Nat)(g:Nat->List SV)(K:KC):aB ugE (fE ugR 1) ugF oU 1 K (.exit 2) (ugS [(62,.int .i64 n),(63,.int .i64 i)] (ugC a1 a2 a3 a4 x y (.ro nh 1 h) (.own 4 0 1 m) .nils) all b (some (.row 3 1 m g)))=
 (∃(e400:Bk),∃(e399:Int),∃(e398:Nat),(((bkC all b)=bkC e399 e400/\8=(↑e398:Int)/\79=79)/\aR e400/\dH e399/\e398<=1000)/\(∀(L396:List (Int×Int×Bool)),∀(b'395:Bk),∀(_:VG (⟨#[107,105,110,100]⟩:ByteArray) (j0 e399) e398 e400 L396 b'395),K (SV.agg [SV.int .i64 a1,SV.int .i64 a2,SV.int .i64 a3,SV.int .i64 a4,SV.int .i64 x,SV.int .i64 y,SV.ro nh 1 h,SV.own 1 0 1 m,SV.ro L396.length 3 (aU kiL (0,0,false) L396),SV.nils,SV.nils,SV.nils,SV.int .i64 0,SV.int .i64 0,SV.int .u32 0,SV.int .i64 0]) [some (SB.cells 130 (bkC e399 b'395)),some (SB.row 3 1 m g)] [0])):=by kernel_rfl
theorem aMQ (a1 a2 a3 a4 x y:Int) (all:Int) (b0:Bk) (hb:aR b0) (ha:dH all) (h3:0<=a3/\a3<=64) (h4:0<=a4/\a4<=64) (K:KC)
  (hK: ∀(L:List Int) (b:Bk),(L,b)=fO (oQ all (a3+1).toNat) (a4+1).toNat b0->aR b-> ∃q,aV ugE (fE ugR 1) ugF oU 2 1 K q (ugS [(62,.int .i64 a4),(63,.int .i64 0)] (ugC a1 a2 a3 a4 x y (pB 1 cV 0 L) .nils .nils) all b none)):
  ∃q,aV ugE (fE ugR 1) ugF QJ 0 1 K q (ugS [(46,.int .i64 (IntKind.i64.wrap (a4+1))),(47,.int .i64 0)] (ugC a1 a2 a3 a4 x y .nils .nils .nils) all b0 none):=by
 have w3:IntKind.i64.wrap (a3+1)=(((a3+1).toNat:Nat):Int):=by rw [fK];omega
 have w4:IntKind.i64.wrap (a4+1)=(((a4+1).toNat:Nat):Int):=by rw [fK];omega
 rw [w4]
 have hm0:0<(a3+1).toNat:=by omega
 have hm1:(a3+1).toNat<=65:=by omega
 have hr0:0<(a4+1).toNat:=by omega
 have hr1:(a4+1).toNat<=65:=by omega
 generalize (a3+1).toNat=m at*
 generalize (a4+1).toNat=r at*
 have hok: ∀i,aR (fO (oQ all m) i b0).2:=rZ (fun _ h=>KJ h) hb
 have hlen: ∀i,(fO (oQ all m) i b0).1.length=i*m:=A8 (fun _ h=>KJ h) (fun _ h=>D2 h) hb
 refine ⟨r+1, ?_⟩
 show iter (aF ugE (fE ugR 1) ugF QJ 0) (aB ugE (fE ugR 1) ugF QJ 1 K) (r+1) (ugS [(46,.int .i64 (r:Nat)),(47,.int .i64 ((0:Nat):Int))] (ugC a1 a2 a3 a4 x y .nils .nils .nils) all (fO (oQ all m) 0 b0).2 none)
 refine xP (e:=22) (st:=1) (id:=4) (f:=cV) (fun i=>(fO (oQ all m) i b0).1) (fun o r' i=>ugS [(46,.int .i64 (r:Nat)),(47,.int .i64 (i:Nat))] (ugC a1 a2 a3 a4 x y o .nils .nils) all (fO (oQ all m) i b0).2 r') r lS (fun i o r' hi ht X hX=> ?_) fun o r' ht X=> ?_
 ·have hl:=hlen i
  have him:i*m<=65*65:=Nat.mul_le_mul (by omega) hm1
  rcases ht with ⟨h0,rfl,rfl⟩|⟨g,hne,rfl,rfl,hg⟩
  ·rw [aLv,aK hi (by omega)]
   refine Br.of (fun _=>⟨_,all,m,⟨⟨rfl,w3⟩,hok i,ha,hm0,by omega⟩,fun p b1 h1=>⟨p,b1,all,⟨⟨rfl,h1.1.2.symm,rfl⟩,by rw [h1.1.2];omega⟩,fun L b2 h2=>⟨fun _ _=>⟨rfl,rfl⟩,Br.of (fun _=>Br.of (fun _=> ?_) fun c=>absurd hm0 (ae c)) fun c=>absurd c (by simp;omega)⟩⟩⟩) fun c=>iI hi c
   obtain ⟨⟨rfl,hl1⟩,rfl⟩:=h1
   obtain ⟨⟨rfl,hl2⟩,rfl⟩:=h2
   refine hX _ _ ?_
   show bU _ 1 4 cV ((fO (oQ all m) i b0).1++(oQ all m (fO (oQ all m) i b0).2).1) _ _
   rw [h0,dj]
   have e:(oQ all m (fO (oQ all m) i b0).2).1.length=m:=D2 (hok i)
   exact .inr ⟨_,fun hn=>by rw [hn] at e;simp at e;omega,by rw [e],by rw [e];rfl,fun j hj=>eN hj⟩
  ·rw [aEj,aK hi (by omega)]
   refine Br.of (fun _=>⟨_,all,m,⟨⟨rfl,w3⟩,hok i,ha,hm0,by omega⟩,fun p b1 h1=>⟨p,b1,all,⟨⟨rfl,h1.1.2.symm,rfl⟩,by rw [h1.1.2];omega⟩,fun L b2 h2=>⟨fun _ _=>⟨rfl,rfl⟩,Br.of (fun _=> ?_) fun c=>absurd c (by simp;omega)⟩⟩⟩) fun c=>iI hi c
   obtain ⟨⟨rfl,hl1⟩,rfl⟩:=h1
   obtain ⟨⟨rfl,hl2⟩,rfl⟩:=h2
   refine hX _ _ ?_
   have e:(oQ all m (fO (oQ all m) i b0).2).1.length=m:=D2 (hok i)
   exact GK (L:=(fO (oQ all m) i b0).1) (p:=(oQ all m (fO (oQ all m) i b0).2).1) (fun hn=>by rw [hn] at e;simp at e;omega) rfl e.symm hg fun j hj=>eN hj
 ·have hl:=hlen r
  have hpos:0<r*m:=Nat.mul_pos hr0 hm0
  rcases ht with ⟨h0,rfl,rfl⟩|⟨g,hne,rfl,rfl,hg⟩
  ·rw [h0] at hl;simp at hl;omega
  ·rw [aEj]
   refine Br.of (fun c=>g7 c) fun _=> ?_
   show aB ugE (fE ugR 1) ugF QJ 1 K (.exit 0) (ugS [(46,.int .i64 (r:Nat)),(47,.int .i64 (r:Nat))] (ugC a1 a2 a3 a4 x y (.own 4 0 1 _) .nils .nils) all _ (some (.row 22 1 _ g)))
   rw [aJg]
   have:=hK _ _ rfl (hok r)
   unfold pB at this
   rw [<- aCg (d:=0) hg] at this
   exact this
theorem aMY (a1 a2 a3 a4 x y n:Int) (nh:Nat) (h:Nat->List SV) (all:Int) (b1:Bk) (i l:Nat) (p:List (List Int)) (hp:p.length=l) (hl:0<l) (hl2:l<=64) (L:List Int) (hL:L.length<=100000) {o:SV} {r:Option SB} (ht:bU 3 1 4 cV L o r) (K:Ex->St->Prop)
  (hK: ∀o' r',bU 3 1 4 cV (L++(p.foldl (pD 0 7) ([],b1)).1) o' r'->K .normal (ugS [(62,.int .i64 n),(63,.int .i64 (IntKind.i64.wrap ((i:Nat)+1)))] (ugC a1 a2 a3 a4 x y (.ro nh 1 h) o' .nils) all (p.foldl (pD 0 7) ([],b1)).2 r')):
  ∃q,iter (aF ugE (fE ugR 1) ugF (oU++[0]++AI) 4) (iM ugE (fE ugR 1) ugF oU 2 AI K) q (ugS (ugT n i l p 0) (ugC a1 a2 a3 a4 x y (.ro nh 1 h) o .nils) all b1 r):=by
 refine ⟨l+1, ?_⟩
 show iter (aF ugE (fE ugR 1) ugF (oU++[0]++AI) 4) (iM ugE (fE ugR 1) ugF oU 2 AI K) (l+1) (ugS (ugT n i l p 0) (ugC a1 a2 a3 a4 x y (.ro nh 1 h) o .nils) all ((p.take 0).foldl (pD 0 7) ([],b1)).2 r)
 refine xP (e:=3) (st:=1) (id:=4) (f:=cV) (fun k=>L++((p.take k).foldl (pD 0 7) ([],b1)).1) (fun o r' k=>ugS (ugT n i l p k) (ugC a1 a2 a3 a4 x y (.ro nh 1 h) o .nils) all ((p.take k).foldl (pD 0 7) ([],b1)).2 r') l (by show bU _ 1 4 cV (L++[]) o r;rw [cm];exact ht) (fun k o r' hk ht X hX=> ?_) fun o r' ht X=> ?_
 ·have hf:=UQ (pD 0 7) (([],b1):List Int×Bk) (p:=p) (i:=k) (by omega)
  have hkl:((p.take k).foldl (pD 0 7) ([],b1)).1.length=k:=by rw [GB,du];simp;omega
  simp only [hf] at hX
  generalize (p.take k).foldl (pD 0 7) ([],b1)=s at*
  obtain ⟨M,b⟩:=s
  simp only at ht hX hkl|-
  have hX: ∀v:Int,v=mX b (rl (p.getD k [])) 0 7-> ∀o' r',bU 3 1 4 cV ((L++M)++[v]) o' r'->X (ugS (ugT n i l p (k+1)) (ugC a1 a2 a3 a4 x y (.ro nh 1 h) o' .nils) all (kR b (rl (p.getD k [])) 0 7) r'):=fun v hv o' r' ht=>hX o' r' (by
   show bU _ 1 4 cV (L++(M++[mX b (rl (p.getD k [])) 0 7])) o' r'
   rw [<- hv,<- bo];exact ht)
  rcases ht with ⟨h0,rfl,rfl⟩|⟨g,hne,rfl,rfl,hg⟩
  ·rw [aJL,aK hk (by omega),am]
   refine Br.of (fun _=>Br.of (fun _=>⟨b,all,rfl,fun v b' hv=> ?_⟩) fun c=>eA hk c) fun c=>iI hk c
   obtain ⟨hv,rfl⟩:=hv
   exact hX v hv _ _ (by rw [h0];exact eT rfl rfl)
  ·have hlen:(L++M).length<=100100:=by rw [au];omega
   rw [aBM,aK hk (by omega),am]
   refine Br.of (fun _=>Br.of (fun _=>⟨b,all,rfl,fun v b' hv=>Br.of (fun _=> ?_) fun c=>absurd c (by rw [au] at hlen;simp;omega)⟩) fun c=>eA hk c) fun c=>iI hk c
   obtain ⟨hv,rfl⟩:=hv
   exact hX v hv _ _ (fQ rfl rfl hg)
 ·rw [<- hp,gz] at ht|-
  rcases ht with ⟨h0,rfl,rfl⟩|⟨g,hne,rfl,rfl,hg⟩
  ·have:=congrArg List.length h0
   simp only [au,GB,bw] at this
   omega
  ·rw [aBM]
   refine Br.of (fun c=>g7 c) fun _=> ?_
   show iM ugE (fE ugR 1) ugF oU 2 AI K (.exit 4) (ugS (ugT n i p.length p p.length) (ugC a1 a2 a3 a4 x y (.ro nh 1 h) (.own 4 0 1 _) .nils) all _ (some (.row 3 1 _ g)))
   rw [aJt]
   exact hK _ _ (.inr ⟨g,hne,rfl,rfl,hg⟩)
def aIH(v:SV->SV)(L:List Int)(b:SB)(K:KC):Prop:=
 (L=[]->K (v .nils) [some b] [0])/\ ∀g,L≠[]->(∀j (h:j<L.length),g j=cV L[j])->K (v (.own 1 0 1 L.length)) [some b,some (.row 3 1 L.length g)] [0]
theorem aMF (a1 a2 a3 a4 x y:Int) (L0:List Int) (all:Int) (b0:Bk) (hb:aR b0) (ha:dH all) (h3:0<=a3/\a3<=64) (h4:0<=a4/\a4<=64) (h34:a4≠0->1<=a3) (K:KC)
  (hK: ∀(G:List Int) (b:Bk),(G,b)=fO (s9 all a3.toNat) a4.toNat b0-> ∀(L:List (Int×Int×Bool)) (b':Bk),VG (ba iK) (j0 all) 8 b L b'->aIH (fun g=> .agg (ugC a1 a2 a3 a4 x y (pB 1 cV 0 L0) g (pB 3 kiL (0,0,false) L))) G (.cells 130 (bkC all b')) K):
  ∃q,aV ugE (fE ugR 1) ugF oU 2 1 K q (ugS [(62,.int .i64 a4),(63,.int .i64 0)] (ugC a1 a2 a3 a4 x y (pB 1 cV 0 L0) .nils .nils) all b0 none):=by
 have hok: ∀i,aR (fO (s9 all a3.toNat) i b0).2:=rZ (fun _ h=>KM h) hb
 have hlen: ∀i,(fO (s9 all a3.toNat) i b0).1.length=i*a3.toNat:=A8 (fun _ h=>KM h) (fun _ h=>aCI h) hb
 refine ⟨a4.toNat+1, ?_⟩
 show iter (aF ugE (fE ugR 1) ugF oU 2) (aB ugE (fE ugR 1) ugF oU 1 K) (a4.toNat+1) (ugS [(62,.int .i64 a4),(63,.int .i64 ((0:Nat):Int))] (ugC a1 a2 a3 a4 x y (.ro L0.length 1 (aU cV 0 L0)) .nils .nils) all (fO (s9 all a3.toNat) 0 b0).2 none)
 refine xP (e:=3) (st:=1) (id:=4) (f:=cV) (fun i=>(fO (s9 all a3.toNat) i b0).1) (fun o r' i=>ugS [(62,.int .i64 a4),(63,.int .i64 (i:Nat))] (ugC a1 a2 a3 a4 x y (.ro L0.length 1 (aU cV 0 L0)) o .nils) all (fO (s9 all a3.toNat) i b0).2 r') a4.toNat lS (fun i o r' hi ht X hX=> ?_) fun o r' ht X=> ?_
 ·have h1:=h34 (by omega)
  have hl:=hlen i
  have him:i*a3.toNat<=64*64:=Nat.mul_le_mul (by omega) (by omega)
  have hw:IntKind.i64.wrap (((i:Nat):Int)+1)=((i+1:Nat):Int):=by rw [fK];omega
  have step: ∀(p:List (List Int)) (b1:Bk),xX all (fO (s9 all a3.toNat) i b0).2 (ba iO) a3.toNat p b1-> ∀KK,∃q,iter (aF ugE (fE ugR 1) ugF (oU++[0]++AI) 4) (iM ugE (fE ugR 1) ugF oU 2 AI (gM X KK)) q (ugS (ugT a4 i a3.toNat p 0) (ugC a1 a2 a3 a4 x y (.ro L0.length 1 (aU cV 0 L0)) o .nils) all b1 r'):=fun p b1 hp KK=>by
   obtain ⟨⟨rfl,hpl⟩,rfl⟩:=hp
   refine aMY a1 a2 a3 a4 x y a4 L0.length (aU cV 0 L0) all _ i a3.toNat _ hpl (by omega) (by omega) _ (by omega) ht _ fun o' r'' ht'=> ?_
   rw [hw]
   exact hX o' r'' ht'
  have e3:a3=((a3.toNat:Nat):Int):=by omega
  rcases ht with ⟨h0,rfl,rfl⟩|⟨g,hne,rfl,rfl,hg⟩
  ·rw [aC8]
   exact Br.of (fun _=>⟨_,all,a3.toNat,⟨⟨rfl,e3⟩,hok i,ha,by omega,by omega⟩,fun p b1 hp=>step p b1 hp _⟩) fun c=>absurd (ae c) (by omega)
  ·rw [aEo]
   exact Br.of (fun _=>⟨_,all,a3.toNat,⟨⟨rfl,e3⟩,hok i,ha,by omega,by omega⟩,fun p b1 hp=>step p b1 hp _⟩) fun c=>absurd (ae c) (by omega)
 ·have e4:a4=((a4.toNat:Nat):Int):=by omega
  have hK:=fun L b' h=>hK (fO (s9 all a3.toNat) a4.toNat b0).1 (fO (s9 all a3.toNat) a4.toNat b0).2 rfl L b' h
  have hok:=hok a4.toNat
  generalize fO (s9 all a3.toNat) a4.toNat b0=s at*
  rcases ht with ⟨h0,rfl,rfl⟩|⟨g,hne,rfl,rfl,hg⟩
  ·rw [aC8]
   refine Br.of (fun c=>absurd (aa c) (by omega)) fun _=> ?_
   show aB ugE (fE ugR 1) ugF oU 1 K (.exit 2) (ugS [(62,.int .i64 a4),(63,.int .i64 (a4.toNat:Nat))] (ugC a1 a2 a3 a4 x y (.ro L0.length 1 (aU cV 0 L0)) .nils .nils) all s.2 none)
   rw [aI4]
   exact ⟨_,all,8,⟨⟨rfl,rfl,rfl⟩,hok,ha,by decide⟩,fun L b' h=>(hK L b' h).1 h0⟩
  ·rw [aEo]
   refine Br.of (fun c=>absurd (aa c) (by omega)) fun _=> ?_
   show aB ugE (fE ugR 1) ugF oU 1 K (.exit 2) (ugS [(62,.int .i64 a4),(63,.int .i64 (a4.toNat:Nat))] (ugC a1 a2 a3 a4 x y (.ro L0.length 1 (aU cV 0 L0)) (.own 4 0 1 _) .nils) all s.2 (some (.row 3 1 _ g)))
   rw [aJb]
   exact ⟨_,all,8,⟨⟨rfl,rfl,rfl⟩,hok,ha,by decide⟩,fun L b' h=>(hK L b' h).2 g hne hg⟩
theorem aKx (all:Int) (b:Bk) (hb:aR b) (ha:dH all) (K:KC)
  (hK: ∀t b',(t,b')=jZ all b->aIH (fun g=> .agg (ugC t.rate t.cell t.cols t.rows t.corner.1 t.corner.2 (pB 1 cV 0 t.heights) g (pB 3 kiL (0,0,false) t.kinds))) t.ground (.cells 130 (bkC all b')) K):
  aMv ugR (fun _=>0) o5 4 32 [.agg [.ptr 0 0]] [some (.cells 130 (bkC all b))] K:=by
 rw [aDw]
 refine ⟨b,all,1,⟨⟨rfl,rfl⟩,hb,ha,by decide,by decide⟩,fun p1 b1 h1=>⟨b1,all,rfl,fun v1 b2 h2=> ?_⟩⟩
 obtain ⟨⟨rfl,_⟩,rfl⟩:=h1
 obtain ⟨hv1,hb2⟩:=h2
 have e1:(v1,b2)=K0 all (ba oE) 60 1024 b:=by rw [hv1,hb2];rfl
 have k1:aR b2:=by rw [show b2=_ from congrArg Prod.snd e1];exact V7 hb
 clear hv1 hb2
 refine ⟨b2,all,1,⟨⟨rfl,rfl⟩,k1,ha,by decide,by decide⟩,fun p2 b3 h3=>⟨b3,all,rfl,fun v2 b4 h4=> ?_⟩⟩
 obtain ⟨⟨rfl,_⟩,rfl⟩:=h3
 obtain ⟨hv2,hb4⟩:=h4
 have e2:(v2,b4)=TA all (ba n9) b2:=by rw [hv2,hb4];rfl
 have k2:aR b4:=by rw [show b4=_ from congrArg Prod.snd e2];exact V4 k1
 clear hv2 hb4
 refine ⟨b4,all,2,⟨⟨rfl,rfl⟩,k2,ha,by decide,by decide⟩,fun p3 b5 h5=>⟨b5,all,rfl,fun v3 b6 h6=>⟨b6,all,rfl,fun v4 b7 h7=> ?_⟩⟩⟩
 obtain ⟨⟨rfl,_⟩,rfl⟩:=h5
 obtain ⟨hv3,rfl⟩:=h6
 obtain ⟨hv4,hb7⟩:=h7
 have e3:((v3,v4),b7)=zN all b4:=by rw [hv3,hv4,hb7];rfl
 have k3:aR b7:=by rw [show b7=_ from congrArg Prod.snd e3];exact WZ k2
 clear hv3 hv4 hb7
 refine ⟨b7,all,2,⟨⟨rfl,rfl⟩,k3,ha,by decide,by decide⟩,fun p4 b8 h8=>⟨p4,b8,all,⟨rfl,rfl,by decide⟩,fun x y b9 h9=> ?_⟩⟩
 obtain ⟨⟨rfl,_⟩,rfl⟩:=h8
 obtain ⟨hxy,hb9⟩:=h9
 have e4:((x,y),b9)=tD all b7:=by rw [hxy,hb9];rfl
 have k4:aR b9:=by rw [show b9=_ from congrArg Prod.snd e4];exact FA k3
 clear hxy hb9
 obtain ⟨r1,r2,r3⟩:=aCc all b4
 rw [<- e3] at r1 r2 r3
 refine aMQ v1 v2 v3 v4 x y all b9 k4 ha r1 r2 K fun H b10 eH k5=>aMF v1 v2 v3 v4 x y H all b10 k5 ha r1 r2 r3 K fun G b11 eG L b12 hL=> ?_
 refine hK ⟨v1,v2,v3,v4,(x,y),H,G,L,[],[],[],(0,0),0,0⟩ b12 ?_
 unfold jZ
 rw [<- e1];simp only
 rw [<- e2];simp only
 rw [<- e3];simp only
 rw [<- e4];simp only
 rw [<- eH];simp only
 rw [<- eG];simp only
 rw [<- show (L,b12)=dW (ba iK) (j0 all) 8 ([],b11) from hL]
def ugV(t:TL):SV:= .agg (ugC t.rate t.cell t.cols t.rows t.corner.1 t.corner.2 (pB 1 cV 0 t.heights) (pB 1 cV 0 t.ground) (pB 3 kiL (0,0,false) t.kinds))
theorem WD{a1 a2 a3 a4 x y:Int}{h g g' k:SV}{ρ:aL}{T:Nat->Prop}{w:World}(hg: ∀v,rel ρ T w g v->rel ρ T w g' v){v:Value}(hv:rel ρ T w (.agg (ugC a1 a2 a3 a4 x y h g k)) v):rel ρ T w (.agg (ugC a1 a2 a3 a4 x y h g' k)) v:=by
 obtain ⟨a,rfl,v1,l1,e1,q1,v2,l2,e2,q2,v3,l3,e3,q3,v4,l4,e4,q4,v5,l5,e5,q5,v6,l6,e6,q6,v7,l7,e7,q7,v8,l8,e8,q8,q9⟩:=hv
 exact ⟨a,rfl,v1,l1,e1,q1,v2,l2,e2,q2,v3,l3,e3,q3,v4,l4,e4,q4,v5,l5,e5,q5,v6,l6,e6,q6,v7,l7,e7,q7,v8,l8,e8,hg _ q8,q9⟩
theorem aLY(b:Bk)(all:Int)(hb:aR b)(ha:dH all):aE Tryz.prog 32 [.agg [.ptr 0 0]] [some (.cells 130 (bkC all b))] (ugV (jZ all b).1) [some (.cells 130 (bkC all (jZ all b).2))] [0]:=by
 generalize hx:jZ all b=x
 obtain ⟨t,b'⟩:=x
 obtain ⟨v,σ',d,hv,hc⟩:=bS (env:=tab.env o5 (fun _=>0) (fun _=>false)) ⟨tab.htt,o5.ok⟩ tab.mixed (fun n=>zX n ugR) tab.hft 4 _ _ _
  (fun v σ' d=>(t.ground=[]/\v= .agg (ugC t.rate t.cell t.cols t.rows t.corner.1 t.corner.2 (pB 1 cV 0 t.heights) .nils (pB 3 kiL (0,0,false) t.kinds))/\σ'=[some (.cells 130 (bkC all b'))]/\d=[0])\/
   ∃g,(∀j (h:j<t.ground.length),g j=cV t.ground[j])/\v= .agg (ugC t.rate t.cell t.cols t.rows t.corner.1 t.corner.2 (pB 1 cV 0 t.heights) (.own 1 0 1 t.ground.length) (pB 3 kiL (0,0,false) t.kinds))/\σ'=[some (.cells 130 (bkC all b')),some (.row 3 1 t.ground.length g)]/\d=[0])
  (aKx all b hb ha _ fun t' b'' e=>by
   rw [hx] at e
   cases e
   exact ⟨fun h=> .inl ⟨h,rfl,rfl,rfl⟩,fun g _ hg=> .inr ⟨g,hg,rfl,rfl,rfl⟩⟩)
 rcases hv with ⟨h0,rfl,rfl,rfl⟩|⟨g,hg,rfl,rfl,rfl⟩
 ·refine sY (fun ρ T w z hz=>WD (fun v hv=> ?_) hz) hc
  show rel ρ T w (.ro t.ground.length 1 _) v
  rw [h0];exact iP hv
 ·refine sY (fun ρ T w z hz=> ?_) (GR 2 (BK b' all) (σ':=[some (.row 3 1 t.ground.length g)]) (fun p hp=>by
   match p,hp with
   |0,hp=>cases hp) hc)
  have hb:Nat.ble t.ground.length t.ground.length=true:=by simp
  have hz:rel ρ T w (.agg (ugC t.rate t.cell t.cols t.rows t.corner.1 t.corner.2 (pB 1 cV 0 t.heights) (bif Nat.ble t.ground.length t.ground.length then .ro t.ground.length 1 g else .junk) (pB 3 kiL (0,0,false) t.kinds))) z:=hz
  rw [hb] at hz
  exact WD (fun v hv=>BW rfl (fun i hi=>by rw [hg i hi,eN hi]) hv) hz
theorem aJu(xs:List SV)(σ:List (Option SB)):Sat Tryz.prog 32 xs σ (CN ugV (isF jZ) xs σ):=vM (F:=jZ) (fun _ _=>rfl) aLY xs σ
end Go.Proofs.YtghnfjfkjhbgdaaGreatDoor
namespace Go.Se
variable {P:Program}
theorem NU {k:FuncId} {fn:Func} (hf:P.funcs[k]? =some fn) (hname:(fn.name== "runtime.NumGoroutine")=false) (hb:fn.body.isNone=true)
  (hn:Extern.findNext fn=none) (he:Extern.find fn=some Extern.AbiNoEscape.same) (x:SV) (σ:List (Option SB)):aE P k [x] σ x σ []:=by
 intro ρ T w vals h1 h2 h3 h4
 obtain ⟨a,r,hv,ha,hr⟩:=h1
 cases hr
 obtain rfl:vals= #[a]:=by rw [<- Array.toList_inj,hv]
 refine .inr ⟨a,w, ?_,ρ,T,{
  names:=fun _ _ h=>h
  only:=fun p b h=>(h4 p b h).1
  len:=av _
  val:=ha
  store:=fun p sb h=> ?_
  fresh:=fun p b hp h=>absurd (h4 p b h).1 (gh.2 hp)
  inj:=fun p q b hp _ h _=>absurd (h4 p b h).1 (gh.2 hp)
  dirty:=fun _ h=>by cases h
  grow:=bG.refl _ _
  tback:=fun _ _ h=>h
  below:=fun p b h=>(h4 p b h).2
  tkeep:=fun _ _ h=> .inl h}⟩
 ·rw [run_callFunc_extern hf hname hb hn he]
  rfl
 ·have hp:p<σ.length:=by
   refine Nat.not_le.1 fun hh=> ?_
   rw [dy hh] at h;cases h
  obtain ⟨sb',b,e,hb',hT,hrel⟩:=h2 p hp
  rw [e] at h;cases h
  exact ⟨b,hb',hT,hrel⟩
def aFK :List SV->List (Option SB)->Out
 | [.ptr i o],σ=>some (.ptr i o,σ,[])
 |_,_=>none
theorem aFG {k:FuncId} {fn:Func} (hf:P.funcs[k]? =some fn) (hname:(fn.name== "runtime.NumGoroutine")=false) (hb:fn.body.isNone=true)
  (hn:Extern.findNext fn=none) (he:Extern.find fn=some Extern.AbiNoEscape.same) (xs:List SV) (σ:List (Option SB)):Sat P k xs σ (one aFK xs σ):=by
 refine aT (fun xs σ v σ' d h=> ?_) xs σ
 unfold aFK at h
 split at h
 ·cases h;exact NU hf hname hb hn he _ _
 ·cases h
end Go.Se
namespace Go.Se
variable {P:Program}
theorem HF {k:FuncId} {fn:Func} (hf:P.funcs[k]? =some fn) (hname:(fn.name== "runtime.NumGoroutine")=false) (hb:fn.body.isNone=true)
  (hn:Extern.findNext fn=none) {ps:Array TypeId} {t e:TypeId} (he:Extern.find fn=some (Extern.BytealgMakeNoZero.makeNoZero ps #[t])) (ht:P.underlying t=some (.slice e)) (n:Nat) (hn2:n<=1099511627776):
  aE P k [.int .i64 n] [] (.own 0 0 1 n) [some (.row e 1 n fun _=>[.junk])] []:=by
 intro ρ T w vals h1 _ h3 h4
 obtain ⟨a,r,hv,ha,hr⟩:=h1
 cases hr
 obtain rfl:vals= #[a]:=by rw [<- Array.toList_inj,hv]
 obtain rfl:a= .int .i64 n:=ha.1
 obtain ⟨cs,hrun,hle,hmax⟩:=Lib.run_makeNoZero (P:=P) w ps t e ht n (by omega)
 have hmx:=hmax (by simp only [maxLen];omega)
 simp only [maxLen] at hmx
 have hρ: ∀p,ρ p=none:=fun p=>by
  cases hp:ρ p with
  |none=>rfl
  |some b=>exact absurd (h4 p b hp).1 (dn _)
 have hsz:(w.drew.drew.alloc (.cells cs e)).heap.size=w.heap.size+1:=by show (w.heap.push _).size=_;simp
 have hnew:(w.drew.drew.alloc (.cells cs e)).heap[w.heap.size]? =some (.cells cs e (0,0)):=by
  show (w.heap.push _)[w.heap.size]? =_
  simp
 have hold: ∀b,b<w.heap.size->(w.drew.drew.alloc (.cells cs e)).heap[b]? =w.heap[b]? :=fun b hb=>by
  show (w.heap.push _)[b]? =_
  rw [Array.getElem?_push,if_neg (Nat.ne_of_lt hb)]
 refine .inr ⟨.slice (some ⟨w.heap.size,0,none⟩) n cs.size,w.drew.drew.alloc (.cells cs e), ?_,fun p=>if p=0 then some w.heap.size else none,fun b=>T b\/b=w.heap.size,{
  names:=fun p b hp=>by rw [hρ] at hp;cases hp
  only:=fun p b hp=>by
   split at hp
   ·subst p;exact Nat.zero_lt_one
   ·cases hp
  len:=cn _
  val:=⟨w.heap.size,cs.size,by simp,by simp,hle,by omega,cs,e,(0,0),hnew,by omega⟩
  store:=fun p sb hp=> ?_
  fresh:=fun p b _ hp=> ?_
  inj:=fun p q b _ _ hp hq=> ?_
  dirty:=fun _ h=>by cases h
  grow:=⟨by rw [hsz];omega,fun b hb _=>hold b hb,fun b vs e f hb=>⟨vs,f,by rw [hold b (bk.1 hb).1];exact hb,rfl⟩,rfl,rfl,rfl⟩
  tback:=fun b hb hT=>hT.resolve_right (by omega)
  below:=fun p b hp=> ?_
  tkeep:=fun _ _ h=> .inl (.inl h)}⟩
 ·rw [run_callFunc_extern hf hname hb hn he,hrun]
  rfl
 ·cases p with
  |succ p=>simp at hp
  |zero=>
   simp only [cv,an] at hp
   subst hp
   exact ⟨w.heap.size,by simp,.inr rfl,cs,hnew,by omega,fun i hi=>by
    have hlen:((cs.toList.drop (i*1)).take 1).length=1:=by
     rw [du,dc,fe];omega
    obtain ⟨x,hx⟩:=List.length_eq_one_iff.1 hlen
    rw [hx]
    exact ⟨x,[],rfl,trivial,rfl⟩⟩
 ·split at hp
  ·cases hp;exact .inl (av _)
  ·cases hp
 ·split at hp
  ·split at hq
   ·subst p;subst q;rfl
   ·cases hq
  ·cases hp
 ·split at hp
  ·cases hp;rw [hsz];omega
  ·cases hp
end Go.Se
namespace Go.Proofs.YtghnfjfkjhbgdaaGreatDoor
open Go.Se
set_option maxRecDepth 100000
theorem aD9(xs:List SV)(σ:List (Option SB)):Sat Tryz.prog 153 xs σ (one aFK xs σ):=
 aFG Tryz.func153 (by kernel_rfl) (by kernel_rfl) (by kernel_rfl) (by kernel_rfl) xs σ
theorem aE3 :Tryz.prog.underlying 47=some (.slice 5):=by kernel_rfl
theorem aMm(n:Nat)(h:n<=1099511627776):aE Tryz.prog 199 [.int .i64 n] [] (.own 0 0 1 n) [some (.row 5 1 n fun _=>[.junk])] []:=
 HF Tryz.func199 (by kernel_rfl) (by kernel_rfl) (by kernel_rfl) (ps:= #[3]) (t:=47) (by kernel_rfl) aE3 n h
def cNz :List SV->List (Option SB)->KC->Prop
 | [.int .i64 n],[],K=> ∃m:Nat,(n=(m:Int)/\m<=1099511627776)/\K (.own 0 0 1 m) [some (.row 5 1 m fun _=>[.junk])] []
 |_,_,_=>False
theorem aKy(xs:List SV)(σ:List (Option SB)):Sat Tryz.prog 199 xs σ (cNz xs σ):=by
 intro K hK
 unfold cNz at hK
 split at hK
 case h_2=>exact hK.elim
 obtain ⟨m,⟨rfl,h⟩,hK⟩:=hK
 exact ⟨_,_,_,hK,aMm m h⟩
noncomputable def n1 :bT Tryz.prog:=((y8).add 153 (one aFK) aD9).add 199 cNz aKy
abbrev sbT :TypeId:=49
theorem aJZ(s:ByteArray)(K:KC):run n1 3 60 [.ptr 0 0,.str s] [some (.cells sbT [.nilp,.nils])] K=
 ((∀(i:Nat),i<s.size->(FE s i).length=1/\(FE s i).all bE=true)/\(Br (true&&(decide (s.size*1<=1099511627776)&&decide (s.size<9223372036854775808))) (Br (decide (0<s.size)) (K (SV.tup [SV.int .i64 (↑s.size:Int),SV.nilI]) [some (SB.cells 49 [SV.ptr 0 0,SV.own 1 0 1 s.size]),some (SB.row 5 1 s.size (FE s))] [0]) (K (SV.tup [SV.int .i64 (↑s.size:Int),SV.nilI]) [some (SB.cells 49 [SV.ptr 0 0,SV.nils])] [0])) (False))):=by kernel_rfl
theorem aK8(s:ByteArray)(n:Nat)(g:Nat->List SV)(K:KC):run n1 3 60 [.ptr 0 0,.str s] [some (.cells sbT [.ptr 0 0,.own 1 0 1 n]),some (.row 5 1 n g)] K=
 ((∀(i:Nat),i<s.size->(FE s i).length=1/\(FE s i).all bE=true)/\(Br (true&&decide (n=n)&&(decide ((n+s.size)*1<=1099511627776)&&decide (n+s.size<9223372036854775808))) (K (SV.tup [SV.int .i64 (↑s.size:Int),SV.nilI]) [some (SB.cells 49 [SV.ptr 0 0,SV.own 2 0 1 (n+s.size)]),none,some (SB.row 5 1 (n+s.size) (qM n g (FE s)))] [0,1]) (False))):=by kernel_rfl
end Go.Proofs.YtghnfjfkjhbgdaaGreatDoor
namespace Go.Se
theorem aEY {P:Program} {k:FuncId} {xs xs':List SV} {sb:SB} {v:SV}
  (hx: ∀(ρ:aL) (T:Nat->Prop) (w:World) (b:Nat) (l:List Value),ρ 0=some b->fV ρ T w sb b->aX ρ T w xs l->aX (fun _=>none) (fun c=>T c/\c≠b) w xs' l) (h:aE P k xs' [] v [] []):aE P k xs [some sb] v [none] [0]:=by
 intro ρ T w vals h1 h2 h3 h4
 obtain ⟨_,b,e0,e1,e2,e3⟩:=h2 0 (by simp)
 simp only [cv,an] at e0
 subst e0
 refine (h (fun _=>none) (fun c=>T c/\c≠b) w vals (hx ρ T w b _ e1 e3 h1) (fun p hp=>absurd hp (dn _)) (fun _ _ _ h=>by cases h)
  ⟨fun _ _ h=>(by cases h),fun g v hg=>⟨fun ht=>(h4.inv g v hg).1 ht.1,(h4.inv g v hg).2⟩⟩).mono fun x w' ⟨ρ',T',hd⟩=> ?_
 have hp0: ∀p c,ρ p=some c->p=0:=fun p c hp=>by have:=(h4.low p c hp).1;simp at this;exact this
 refine ⟨ρ,T',{
  names:=fun _ _ h=>h
  only:=fun p c hp=>by rw [hp0 p c hp];simp
  len:=av _
  val:=iW (fun p c hp=>absurd (hd.only p c hp) (dn _)) (fun _ _ h=>h) (bG.refl T' w') _ _ hd.val
  store:=fun p s hp=>by
   match p,hp with
   |0,hp=>cases hp
  fresh:=fun p c hp hb=>by
   have:=hp0 p c hb;subst this;simp at hp
  inj:=fun p q c hp _ hb=>by
   have:=hp0 p c hb;subst this;simp at hp
  dirty:=fun p hp=>by simp at hp|-;omega
  grow:=hd.grow.mono fun c _ ⟨p,hp,_⟩=>by cases hp
  tback:=fun c hc ht=>(hd.tback c hc ht).1
  below:=fun p c hp=>dm (h4.low p c hp).2 hd.grow.size
  tkeep:=fun c hc ht=>by
   by_cases e:c=b
   ·subst e;exact .inr ⟨0,by simp,rfl,e1⟩
   ·rcases hd.tkeep c hc ⟨ht,e⟩ with h|⟨q,hq,_⟩
    ·exact .inl h
    ·cases hq}⟩
theorem JX{ρ:aL}{T:Nat->Prop}{w:World}{b n n' st e:Nat}{g g':Nat->List SV}{v:Value}(hn:n<=n')(hg: ∀i,i<n->g' i=g i/\(g i).length=st)(h1:ρ 0=some b)(h2:fV ρ T w (.row e st n' g') b)(hv:rel ρ T w (.own 0 0 st n) v):
  rel (fun _=>none) (fun c=>T c/\c≠b) w (.ro n st g) v:=by
 obtain ⟨b',c,r1,rfl,r2,r3,_⟩:=hv
 rw [h1] at r1;cases r1
 obtain ⟨vs,r6,r7,r8⟩:=h2
 refine ⟨some ⟨b,0*st,none⟩,c,rfl,⟨r2,by omega,fun he=>by cases he⟩,fun _=>⟨b,0,by rw [ce],(bk.1 r6).1,fun ht=>ht.2 rfl,fun i hi=> ?_⟩⟩
 obtain ⟨e1,e2⟩:=hg i hi
 rw [<- e1]
 have hr:=bB (T':=fun c=>T c/\c≠b) (fun _ _ h=>h) (fun _ _ h=>h.1) (bG.refl T w) _ _ (r8 i (by omega))
 rw [bi]
 refine eV hr fun j u hj=> ?_
 rw [fF r6]
 rw [br] at hj
 split at hj
 ·rw [bu] at hj
  simpa using hj
 ·cases hj
theorem CS{P:Program}{k:FuncId}{s:ByteArray}{n n' st e:Nat}{g g':Nat->List SV}{v:SV}(hn:n<=n')(hg: ∀i,i<n->g' i=g i/\(g i).length=st)(h:aE P k [.ro n st g,.str s] [] v [] []):
  aE P k [.own 0 0 st n,.str s] [some (.row e st n' g')] v [none] [0]:=
 aEY (fun ρ T w b l h1 h2 h3=>by
  obtain ⟨x,r,rfl,hx,y,r9,rfl,y1,y2⟩:=h3
  exact ⟨_,_,rfl,JX hn hg h1 h2 hx,y,r9,rfl,y1,y2⟩) h
theorem CW{P:Program}{k:FuncId}{s:ByteArray}{n n' st e:Nat}{g g':Nat->List SV}{v:SV}(hn:n<=n')(hg: ∀i,i<n->g' i=g i/\(g i).length=st)(h:aE P k [.str s,.ro n st g] [] v [] []):
  aE P k [.str s,.own 0 0 st n] [some (.row e st n' g')] v [none] [0]:=
 aEY (fun ρ T w b l h1 h2 h3=>by
  obtain ⟨y,r9,rfl,y1,x,r,rfl,hx,y2⟩:=h3
  exact ⟨y,_,rfl,y1,_,_,rfl,JX hn hg h1 h2 hx,y2⟩) h
open Go.Proofs Go.Shelf Go.RowKit
variable {P:Program}
def b8(n:Int):UInt8:=UInt8.ofNat n.toNat
theorem tP(l:List Int):(bytesOf l).data.toList=l.map b8:=by unfold bytesOf;simp [b8]
theorem J2 : ∀r:List (List Int),Lib.joinTail [32] (r.map fun x=>(bytesOf x).data.toList)=(eL r).map b8
 | []=>rfl
 |w::r=>by
  have ih:=J2 r
  show ([32]++(bytesOf w).data.toList)++Lib.joinTail [32] (r.map fun x=>(bytesOf x).data.toList)=(32::(w++eL r)).map b8
  rw [ih,tP,List.map_cons,gf];rfl
theorem VZ(p:List (List Int)):Lib.join ((p.map bytesOf).map (·.data.toList)) (⟨#[32]⟩:ByteArray).data.toList=(eK p).map b8:=by
 rw [gm]
 cases p with
 |nil=>rfl
 |cons w r=>
  show Lib.join ((bytesOf w).data.toList::r.map fun x=>(bytesOf x).data.toList) [32]=(w++eL r).map b8
  rw [Lib.join_cons,J2,tP,gf]
theorem SJ(p:List (List Int)):(⟨(Lib.join ((p.map bytesOf).map (·.data.toList)) (⟨#[32]⟩:ByteArray).data.toList).toArray⟩:ByteArray)=bytesOf (eK p):=by
 rw [VZ]
 apply ep
 apply fw
 rw [tP]
theorem B7{R:Ren}(L:Lays.n156 P R)(X:Builder.Extra P R)(p:List (List Int))(h1:(eK p).length<=1099511627776)(h2:p.length<=1099511627776):
  aE P (R.f 156) [.ro p.length 1 (aG p),.str ⟨#[32]⟩] [] (.str (bytesOf (eK p))) [] []:=by
 intro ρ T w vals hv _ _ h4
 obtain ⟨v1,r1,e1,⟨a,c,rfl,⟨hc,_,ha⟩,hrow⟩,v2,r2,e2,⟨rfl,hs⟩,e3⟩:=hv
 have e3:r2=[]:=e3
 subst e3;subst e2
 obtain rfl:vals= #[.slice a p.length c,.string ⟨#[32]⟩]:=by apply fw;exact e1
 have hρ: ∀q,ρ q=none:=fun q=>by
  cases hq:ρ q with
  |none=>rfl
  |some b=>exact absurd (h4 q b hq).1 (dn _)
 have hsz:(bytesOf (eK p)).size<9223372036854775808:=by rw [aM];omega
 have key:Calls P (R.f 156) #[.slice a p.length c,.string ⟨#[32]⟩] w fun e w'=>e= .returned (.string (bytesOf (eK p)))/\Below w.heap.size w w':=by
  by_cases hp:p.length=0
  ·have hp0:p=[]:=fg hp
   subst hp0
   refine (Any.strings_Join_none L X a c ⟨#[32]⟩ w).mono fun e w' ⟨h,h'⟩=>⟨h, ?_⟩
   rw [h'];exact Below.refl _ _
  ·obtain ⟨b,off,rfl,hb,_,hat⟩:=hrow (by omega)
   have hcells: ∀(j:Nat) x,(p.map bytesOf)[j]? =some x->w.cell? ⟨b,off+j,none⟩=some (.string x):=fun j x hx=>by
    rw [fm] at hx
    cases hj:p[j]? with
    |none=>rw [hj] at hx;cases hx
    |some l=>
     rw [hj] at hx
     cases hx
     have hlt:j<p.length:=(ca.1 hj).1
     obtain ⟨⟨v,k1,k2,_⟩,_⟩:=hat j hlt
     rw [Nat.mul_one] at k1
     rw [k1,k2]
     have:aG p j=[.str (bytesOf l)]:=by
      show kQ (p.getD j [])=_
      rw [bc,hj];rfl
     show some (Value.string (bytesOf (p.getD j [])))=_
     rw [bc,hj];rfl
   have hl:(p.map bytesOf).length=p.length:=by simp
   have:=Any.strings_Join L X b off c (p.map bytesOf) ⟨#[32]⟩ w hcells hb (by omega) (by omega) (by rw [VZ,gu];omega)
   rw [hl,SJ] at this
   exact this
 refine .inl ⟨_,L.f156,rfl,rfl,key.mono fun e w' ⟨he,hB⟩=>⟨_,he,ρ,T,{
  names:=fun _ _ h=>h
  only:=fun q b h=>by rw [hρ] at h;cases h
  len:=av _
  val:=⟨rfl,hsz⟩
  store:=fun q sb h=>by simp at h
  fresh:=fun q b _ h=>by rw [hρ] at h;cases h
  inj:=fun q q' b _ _ h=>by rw [hρ] at h;cases h
  dirty:=fun _ h=>by cases h
  grow:=⟨hB.size,fun b hb _=>hB.block b hb,fun b vs e f hb=>⟨vs,f,by rw [hB.block b (bk.1 hb).1];exact hb,rfl⟩,hB.os,hB.output,hB.tape⟩
  tback:=fun _ _ h=>h
  below:=fun q b h=>by rw [hρ] at h;cases h
  tkeep:=fun _ _ h=> .inl h}⟩⟩
end Go.Se
namespace Go.Se
open Go.Proofs Go.Shelf Go.RowKit
variable {P:Program}
theorem uV {R:Ren} (L:Lays.n156 P R) (X:Builder.Extra P R) (p:List (List Int)) (h1:(eK p).length<=1099511627776) (h2:p.length<=1099511627776) {e n':Nat} {g:Nat->List SV} (hn:p.length<=n')
  (hg: ∀j (h:j<p.length),g j=kQ p[j]):aE P (R.f 156) [.own 0 0 1 p.length,.str ⟨#[32]⟩] [some (.row e 1 n' g)] (.str (bytesOf (eK p))) [none] [0]:=
 CS hn (fun i hi=>⟨by rw [hg i hi];exact (eN (f:=kQ) (d:=[]) hi).symm,by show (aU kQ [] p i).length=1;rw [eN hi];rfl⟩) (B7 L X p h1 h2)
end Go.Se
namespace Go.Se
open Go.Proofs Go.Shelf Go.RowKit
variable {P:Program}
theorem R8 {k:FuncId} {xs:List SV} {sb sb':SB} {v:SV} {σ':List (Option SB)} {d:List Nat} (h: ∀(ρ:aL) (T:Nat->Prop) (w:World) (b:Nat),fV ρ T w sb b->fV ρ T w sb' b)
  (hc:aE P k xs [some sb'] v σ' d):aE P k xs [some sb] v σ' d:=fun ρ T w vals h1 h2 h3 h4=>
 (hc ρ T w vals h1 (fun p hp=>by
  obtain ⟨s,b,e1,e2,e3,e4⟩:=h2 p hp
  obtain rfl:p=0:=by simp at hp;exact hp
  simp only [cv,an] at e1
  subst e1
  exact ⟨sb',b,rfl,e2,e3,h _ _ _ _ e4⟩) h3 h4).mono fun x w' ⟨ρ',T',hd⟩=>⟨ρ',T',⟨hd.names,hd.only,hd.len,hd.val,hd.store,hd.fresh,hd.inj,hd.dirty,hd.grow,hd.tback,hd.below,hd.tkeep⟩⟩
def xI(p:List (List Int)):List SV:=p.map fun x=> .str (bytesOf x)
theorem AN : ∀p:List (List Int),ids.idsL (xI p)=[]
 | []=>rfl
 |_::r=>AN r
theorem I6(p:List (List Int))(j:Nat)(h:j<p.length):cut (xI p) (j*1) 1=kQ p[j]:=by
 unfold cut xI
 rw [Nat.mul_one,dz (by simpa using h)]
 simp [kQ]
theorem FR{R:Ren}(L:Lays.n156 P R)(X:Builder.Extra P R)(p:List (List Int))(h1:(eK p).length<=1099511627776)(h2:p.length<=1099511627776){e:Nat}:
  aE P (R.f 156) [.own 0 0 1 p.length,.str ⟨#[32]⟩] [some (.lst e (xI p))] (.str (bytesOf (eK p))) [none] [0]:=
 R8 (fun ρ T w b h=>qB (st:=1) (len:=p.length) (AN p) (by unfold xI;simp) h) (uV L X p h1 h2 (av _) fun j hj=>I6 p j hj)
def cU(g:Nat->List SV)(p:List (List Int)):Prop:= ∀j (h:j<p.length),g j=kQ p[j]
end Go.Se
namespace Go.Proofs.YtghnfjfkjhbgdaaGreatDoor
open Go.Se Go.Shelf
set_option maxRecDepth 100000
def jR :Ren:=⟨fun
 |156=>61
 |165=>106
 |166=>60
 |169=>21
 |240=>105
 |241=>154
 |276=>153
 |277=>199
 |n=>n,fun
 |0=>0
 |3=>3
 |4=>4
 |5=>5
 |9=>9
 |20=>20
 |31=>54
 |37=>47
 |70=>46
 |72=>49
 |75=>94
 |76=>108
 |80=>60
 |127=>115
 |164=>144
 |n=>n,fun n=>n⟩
theorem jL :Go.Proofs.Lays.n156 Tryz.prog jR where
 mixed:=by kernel_rfl
 f156:=by kernel_rfl
 f165:=by kernel_rfl
 f166:=by kernel_rfl
 f169:=by kernel_rfl
 f240:=by kernel_rfl
 f241:=by kernel_rfl
 f276:=by kernel_rfl
 f277:=by kernel_rfl
 t0:=by kernel_rfl
 a0:=fun _=>by kernel_rfl
 z0:=fun _=>by kernel_rfl
 v0:=fun _=>by kernel_rfl
 t3:=by kernel_rfl
 a3:=fun _=>by kernel_rfl
 z3:=fun _=>by kernel_rfl
 v3:=fun _=>by kernel_rfl
 t4:=by kernel_rfl
 a4:=fun _=>by kernel_rfl
 z4:=fun _=>by kernel_rfl
 v4:=fun _=>by kernel_rfl
 t9:=by kernel_rfl
 a9:=fun _=>by kernel_rfl
 z9:=fun _=>by kernel_rfl
 v9:=fun _=>by kernel_rfl
 t20:=by kernel_rfl
 a20:=fun _=>by kernel_rfl
 z20:=fun _=>by kernel_rfl
 v20:=fun _=>by kernel_rfl
 t31:=by kernel_rfl
 a31:=fun _=>by kernel_rfl
 z31:=fun _=>by kernel_rfl
 v31:=fun _=>by kernel_rfl
 t37:=by kernel_rfl
 a37:=fun _=>by kernel_rfl
 z37:=fun _=>by kernel_rfl
 v37:=fun _=>by kernel_rfl
 t70:=by kernel_rfl
 a70:=fun _=>by kernel_rfl
 z70:=fun _=>by kernel_rfl
 v70:=fun _=>by kernel_rfl
 t72:=by kernel_rfl
 a72:=fun _=>by kernel_rfl
 z72:=fun _=>by kernel_rfl
 v72:=fun _=>by kernel_rfl
 t75:=by kernel_rfl
 a75:=fun _=>by kernel_rfl
 z75:=fun _=>by kernel_rfl
 v75:=fun _=>by kernel_rfl
 t76:=by kernel_rfl
 a76:=fun _=>by kernel_rfl
 z76:=fun _=>by kernel_rfl
 v76:=fun _=>by kernel_rfl
 t127:=by kernel_rfl
 a127:=fun _=>by kernel_rfl
 z127:=fun _=>by kernel_rfl
 v127:=fun _=>by kernel_rfl
 t164:=by kernel_rfl
 a164:=fun _=>by kernel_rfl
 z164:=fun _=>by kernel_rfl
 v164:=fun _=>by kernel_rfl
theorem jX :Go.Proofs.Builder.Extra Tryz.prog jR where
 sizeBuilder:=by kernel_rfl
 liesBuilder:=by kernel_rfl
 t5:=by kernel_rfl
 a5:=fun _=>by kernel_rfl
 z5:=fun _=>by kernel_rfl
 v5:=fun _=>by kernel_rfl
 infoByte:=by kernel_rfl
 cellsByte:=by kernel_rfl
 sizeByte:=by kernel_rfl
 neB5:=by decide
def cJn :List SV->List (Option SB)->KC->Prop
 | [.ro n 1 g,.str s],[],K=> ∃p:List (List Int),((n=p.length/\g=aG p)/\s=⟨#[32]⟩/\(eK p).length<=1099511627776/\n<=1099511627776)/\K (.str (bytesOf (eK p))) [] []
 | [.own 0 0 1 n,.str s],[some (.row 9 1 n' g)],K=> ∃p:List (List Int),((n=p.length/\n'=n/\ ∀j (h:j<p.length),g j=kQ p[j])/\s=⟨#[32]⟩/\(eK p).length<=1099511627776/\n<=1099511627776)/\K (.str (bytesOf (eK p))) [none] [0]
 | [.own 0 0 1 n,.str s],[some (.lst 9 cs)],K=> ∃p:List (List Int),((n=p.length/\cs=xI p)/\s=⟨#[32]⟩/\(eK p).length<=1099511627776/\n<=1099511627776)/\K (.str (bytesOf (eK p))) [none] [0]
 |_,_,_=>False
theorem aJH(xs:List SV)(σ:List (Option SB)):Sat Tryz.prog 61 xs σ (cJn xs σ):=by
 intro K hK
 unfold cJn at hK
 split at hK
 case h_4=>exact hK.elim
 ·obtain ⟨p,⟨⟨rfl,rfl⟩,rfl,h1,h2⟩,hK⟩:=hK
  exact ⟨_,_,_,hK,B7 jL jX p h1 h2⟩
 ·obtain ⟨p,⟨⟨rfl,rfl,hg⟩,rfl,h1,h2⟩,hK⟩:=hK
  exact ⟨_,_,_,hK,uV jL jX p h1 h2 (av _) hg⟩
 ·obtain ⟨p,⟨⟨rfl,rfl⟩,rfl,h1,h2⟩,hK⟩:=hK
  exact ⟨_,_,_,hK,FR jL jX p h1 h2⟩
end Go.Proofs.YtghnfjfkjhbgdaaGreatDoor
namespace Go.Proofs.YtghnfjfkjhbgdaaGreatDoor
open Go.Se
set_option maxRecDepth 100000
theorem aJj(s:ByteArray)(h0:0<s.size)(h1:s.size<=1099511627776):aE Tryz.prog 60 [.ptr 0 0,.str s] [some (.cells sbT [.nilp,.nils])] (.tup [.int .i64 s.size,.nilI]) [some (.cells sbT [.ptr 0 0,.own 1 0 1 s.size]),some (.row 5 1 s.size (tG (aD s)))] [0]:=
 aS n1 3 fun _ _ K hK=>by
  rw [aJZ,XN]
  exact ⟨fun i _=>⟨rfl,rfl⟩,Br.of (fun _=>Br.of (fun _=>hK) fun f=>absurd h0 (ae f)) fun f=>absurd f (by simp only [ch,bf,aw];omega)⟩
theorem aLz(s:ByteArray)(l:List Int)(h1:l.length+s.size<=1099511627776):aE Tryz.prog 60 [.ptr 0 0,.str s] [some (.cells sbT [.ptr 0 0,.own 1 0 1 l.length]),some (.row 5 1 l.length (tG l))] (.tup [.int .i64 s.size,.nilI])
  [some (.cells sbT [.ptr 0 0,.own 2 0 1 (l++aD s).length]),none,some (.row 5 1 (l++aD s).length (tG (l++aD s)))] [0,1]:=
 aS n1 3 fun _ _ K hK=>by
  rw [aK8,XN,aGb]
  rw [au,cF] at hK
  exact ⟨fun i _=>⟨rfl,rfl⟩,Br.of (fun _=>hK) fun f=>absurd f (by simp;omega)⟩
def cWs :List SV->List (Option SB)->KC->Prop
 | [.ptr 0 0,.str s],[some (.cells 49 [.nilp,.nils])],K=>(0<s.size/\s.size<=1099511627776)/\K (.tup [.int .i64 s.size,.nilI]) [some (.cells 49 [.ptr 0 0,.own 1 0 1 s.size]),some (.row 5 1 s.size (tG (aD s)))] [0]
 | [.ptr 0 0,.str s],[some (.cells 49 [.ptr 0 0,.own 1 0 1 n]),some (.row 5 1 n' g)],K=> ∃l:List Int,((n=l.length/\n'=l.length/\g=tG l)/\l.length+s.size<=1099511627776)/\
   K (.tup [.int .i64 s.size,.nilI]) [some (.cells 49 [.ptr 0 0,.own 2 0 1 (l++aD s).length]),none,some (.row 5 1 (l++aD s).length (tG (l++aD s)))] [0,1]
 |_,_,_=>False
theorem aI8(xs:List SV)(σ:List (Option SB)):Sat Tryz.prog 60 xs σ (cWs xs σ):=by
 intro K hK
 unfold cWs at hK
 split at hK
 case h_3=>exact hK.elim
 ·obtain ⟨⟨h0,h1⟩,hK⟩:=hK;exact ⟨_,_,_,hK,aJj _ h0 h1⟩
 ·obtain ⟨l,⟨⟨rfl,rfl,rfl⟩,h1⟩,hK⟩:=hK;exact ⟨_,_,_,hK,aLz _ l h1⟩
noncomputable def n2 :bT Tryz.prog:=((n1).add 60 cWs aI8).add 61 cJn aJH
def muR :List (Nat×eI):=[(0,⟨[3,6,7,8],[0],[0,1,2,3,4],1,[(3,0)]⟩)]
noncomputable abbrev muE :Env:=fG muR (fun _=>0) n2 2
noncomputable abbrev muF :Func:=Tryz.f57
abbrev muP :List Nat:=[1,1,0,1,0]
def muS(n:Nat)(f:Nat->Int)(o:SV)(r:Option SB)(i:Int):St:=⟨[(3,o),(6,.ro n 1 (aP f)),(7,.int .i64 n),(8,.int .i64 i)],[(0,r)],1,[0,1,2,3,4],19⟩
theorem aEO(n:Nat)(f:Nat->Int)(K:KC):cL muR (fun _=>0) n2 3 57 [.ro n 1 (aP f)] [] K=
 (∃q_,aV muE (aA muR 0) muF muP 0 0 K q_ {tmps:=[(3,SV.nils),(6,SV.ro n 1 (aP f)),(7,SV.int .i64 (↑n:Int)),(8,SV.int .i64 0)],store:=[(0,none)],nxt:=1,dirty:=[0,1,2,3,4],nt:=19}):=by kernel_rfl
theorem JD(n:Nat)(f:Nat->Int)(i:Nat)(K:Ex->St->Prop):aF muE (aA muR 0) muF muP 0 K (muS n f .nils none i)=
 (Br (decide ((↑i:Int)<(↑n:Int))) (Br (decide (0<=(↑i:Int))&&decide ((↑i:Int)<(↑n:Int))) (K Ex.normal {tmps:=[(3,SV.own 0 0 1 1),(6,SV.ro n 1 (aP f)),(7,SV.int .i64 (↑n:Int)),(8,SV.int .i64 (IntKind.i64.wrap ((↑i:Int)+1)))],store:=[(0,some (SB.row 9 1 1 fun (i_1:Nat)=>cut [SV.str (bytesOf (aC (f (↑i:Int).toNat)))] (i_1*1) 1))],nxt:=1,dirty:=[0,1,2,3,4],nt:=19}) (False)) (K (Ex.exit 0) {tmps:=[(3,SV.nils),(6,SV.ro n 1 (aP f)),(7,SV.int .i64 (↑n:Int)),(8,SV.int .i64 (↑i:Int))],store:=[(0,none)],nxt:=1,dirty:=[0,1,2,3,4],nt:=19})):=by kernel_rfl
theorem H4(n:Nat)(f:Nat->Int)(m:Nat)(g:Nat->List SV)(i:Nat)(K:Ex->St->Prop):aF muE (aA muR 0) muF muP 0 K (muS n f (.own 0 0 1 m) (some (.row 9 1 m g)) i)=
 (Br (decide ((↑i:Int)<(↑n:Int))) (Br (decide (0<=(↑i:Int))&&decide ((↑i:Int)<(↑n:Int))) (Br (decide ((m+1)*16<=1099511627776)&&decide (m+1<9223372036854775808)&&decide (m=m)) (K Ex.normal {tmps:=[(3,SV.own 0 0 1 (m+1)),(6,SV.ro n 1 (aP f)),(7,SV.int .i64 (↑n:Int)),(8,SV.int .i64 (IntKind.i64.wrap ((↑i:Int)+1)))],store:=[(0,some (SB.row 9 1 (m+1) (bK m [SV.str (bytesOf (aC (f (↑i:Int).toNat)))] g)))],nxt:=1,dirty:=[0,1,2,3,4],nt:=19}) (False)) (False)) (K (Ex.exit 0) {tmps:=[(3,SV.own 0 0 1 m),(6,SV.ro n 1 (aP f)),(7,SV.int .i64 (↑n:Int)),(8,SV.int .i64 (↑i:Int))],store:=[(0,some (SB.row 9 1 m g))],nxt:=1,dirty:=[0,1,2,3,4],nt:=19})):=by kernel_rfl
theorem aAr(n:Nat)(f:Nat->Int)(i:Nat)(K:KC):aB muE (aA muR 0) muF muP 0 K (.exit 0) (muS n f .nils none i)=
 (K SV.nils [] []):=by kernel_rfl
theorem aBr(n:Nat)(f:Nat->Int)(m:Nat)(g:Nat->List SV)(i:Nat)(K:KC):aB muE (aA muR 0) muF muP 0 K (.exit 0) (muS n f (.own 0 0 1 m) (some (.row 9 1 m g)) i)=
 (K (SV.own 0 0 1 m) [some (SB.row 9 1 m g)] []):=by kernel_rfl
theorem aIO(t:TypeId)(a:Int)(K:KC):kC 3 n2 3 57 [.arr 0 0 1 1] [some (.cells t [.int .i64 a])] K=
 (K (SV.own 1 0 1 1) [some (SB.cells t [SV.int .i64 a]),some (SB.lst 9 [SV.str (bytesOf (aC a))])] []):=by kernel_rfl
theorem aJY(t:TypeId)(a b:Int)(K:KC):kC 4 n2 3 57 [.arr 0 0 2 2] [some (.cells t [.int .i64 a,.int .i64 b])] K=
 (K (SV.own 1 0 1 2) [some (SB.cells t [SV.int .i64 a,SV.int .i64 b]),some (SB.lst 9 [SV.str (bytesOf (aC a)),SV.str (bytesOf (aC b))])] []):=by kernel_rfl
theorem aKo(t:TypeId)(a:Int)(K:KC):kC 3 n2 3 20 [.arr 0 0 1 1] [some (.cells t [.int .i64 a])] K=
 (K (SV.own 1 0 1 1) [some (SB.cells t [SV.int .i64 a]),some (SB.lst 9 [SV.str (bytesOf (aH a))])] []):=by kernel_rfl
theorem aIS(t:TypeId)(a b:Int)(K:KC):kC 4 n2 3 20 [.arr 0 0 2 2] [some (.cells t [.int .i64 a,.int .i64 b])] K=
 (K (SV.own 1 0 1 2) [some (SB.cells t [SV.int .i64 a,SV.int .i64 b]),some (SB.lst 9 [SV.str (bytesOf (aH a)),SV.str (bytesOf (aH b))])] []):=by kernel_rfl
end Go.Proofs.YtghnfjfkjhbgdaaGreatDoor
namespace Go.Se
variable {P:Program}
theorem vP {k:FuncId} {xs:List SV} {σ:List (Option SB)} {v:SV} {σ1 σ2:List (Option SB)} {d:List Nat} (hl:σ1.length=σ2.length) (hn: ∀p:Nat,σ1[p]? =some none↔σ2[p]? =some none)
  (h: ∀(p:Nat) (sb:SB),σ2[p]? =some (some sb)-> ∃sb1,σ1[p]? =some (some sb1)/\ ∀(ρ:aL) (T:Nat->Prop) (w:World) (b:Nat),fV ρ T w sb1 b->fV ρ T w sb b)
  (hc:aE P k xs σ v σ1 d):aE P k xs σ v σ2 d:=by
 intro ρ T w vals h1 h2 h3 h4
 refine (hc ρ T w vals h1 h2 h3 h4).mono fun x w' ⟨ρ',T',hd⟩=>⟨ρ',T',{
  names:=hd.names
  only:=hl▸hd.only
  len:=hl▸hd.len
  val:=hd.val
  store:=fun p sb hp=>by
   obtain ⟨sb1,e1,e2⟩:=h p sb hp
   obtain ⟨b,e3,e4,e5⟩:=hd.store p sb1 e1
   exact ⟨b,e3,e4,e2 _ _ _ _ e5⟩
  fresh:=fun p b hp hb=>by
   rcases hd.fresh p b hp hb with h|⟨q,h5,h6,h7⟩
   ·exact .inl h
   ·exact .inr ⟨q,h5,(hn q).1 h6,h7⟩
  inj:=hd.inj
  dirty:=hd.dirty
  grow:=hd.grow
  tback:=hd.tback
  below:=hd.below
  tkeep:=fun b hb hT=>by
   rcases hd.tkeep b hb hT with h|⟨q,h5,h6,h7⟩
   ·exact .inl h
   ·exact .inr ⟨q,h5,(hn q).1 h6,h7⟩}⟩
theorem rV{p:List (List Int)}{j:Nat}(h:j<p.length):aG p j=kQ p[j]:=eN h
theorem BB{ρ:aL}{T:Nat->Prop}{w:World}{e st n:Nat}{g g':Nat->List SV}{b:Nat}(h: ∀i,i<n->g i=g' i)(hr:fV ρ T w (.row e st n g) b):fV ρ T w (.row e st n g') b:=by
 obtain ⟨vs,r1,r2,r3⟩:=hr
 exact ⟨vs,r1,r2,fun i hi=>by rw [<- h i hi];exact r3 i hi⟩
theorem aAk{ρ:aL}{T:Nat->Prop}{w:World}{e:Nat}{p:List (List Int)}{b n:Nat}(hn:n=p.length)(hr:fV ρ T w (.lst e (xI p)) b):fV ρ T w (.row e 1 n (aG p)) b:=by
 subst hn
 exact BB (fun i hi=>by rw [I6 p i hi,rV hi]) (qB (st:=1) (len:=p.length) (AN p) (by unfold xI;simp) hr)
theorem ZN{e id m n:Nat}{L p:List (List Int)}{g h:Nat->List SV}(hp:p≠[])(hm:m=L.length)(hn:n=p.length)(hg: ∀j (h:j<L.length),g j=kQ L[j])(hh: ∀j (x:j<p.length),h j=kQ p[j]):
  bU e 1 id kQ (L++p) (.own id 0 1 (m+n)) (some (.row e 1 (m+n) (qM m g h))):=
 .inr ⟨qM m g h,by simp [hp],by rw [hm,hn];simp,by rw [hm,hn];simp,fun j hj=>by
  unfold qM
  by_cases c:j<m
  ·rw [show Nat.blt j m=true from Nat.ble_eq_true_of_le c]
   rw [List.getElem_append_left (by omega)]
   exact hg j (by omega)
  ·rw [show Nat.blt j m=false from cf.2 fun x=>c (cd x)]
   rw [au] at hj
   rw [List.getElem_append_right (by omega)]
   show h (j - m)=_
   subst hm
   exact hh (j - L.length) (by omega)⟩
theorem gP(f:Nat->Int)(a n:Nat):(dX f a n).length=n:=by unfold dX;simp
theorem gQ(f:Nat->Int)(a n:Nat):(eZ f a n).length=n:=by unfold eZ;simp
theorem eU(x y:Nat->Int): ∀(n a:Nat),(cY x y a n).length=2*n
 |0,_=>rfl
 |n+1,a=>by show (cY x y (a+1) n).length+1+1=_;rw [eU x y n];omega
theorem JV(f:Nat->Int)(a n:Nat):dX (fun i=>f (i+a)) 0 n=dX f a n:=by
 unfold dX
 rw [List.range'_eq_map_range,List.range'_eq_map_range,gm,gm]
 exact List.map_congr_left fun i _=>by show aC (f (0+i+a))=aC (f (a+i));rw [bi,Nat.add_comm]
theorem HU(f:Nat->Int)(a n:Nat):eZ (fun i=>f (i+a)) 0 n=eZ f a n:=by
 unfold eZ
 rw [List.range'_eq_map_range,List.range'_eq_map_range,gm,gm]
 exact List.map_congr_left fun i _=>by show aH (f (0+i+a))=aH (f (a+i));rw [bi,Nat.add_comm]
theorem qA {env:Env} {W:Nat->St->Option St} {fn:Func} {path:List Nat} {blk:Nat} {KK:Ex->St->Prop} {e:Nat} (F:Nat->List (List Int)) (S:SV->Option SB->Nat->St) (n:Nat) (h0:F 0=[])
  (hr: ∀i o b,i<n->bU e 1 0 kQ (F i) o b-> ∀X:St->Prop,(∀o' b',bU e 1 0 kQ (F (i+1)) o' b'->X (S o' b' (i+1)))->aF env W fn path blk (gM X KK) (S o b i))
  (he: ∀o b,bU e 1 0 kQ (F n) o b-> ∀X:St->Prop,aF env W fn path blk (gM X KK) (S o b n)):
  iter (aF env W fn path blk) KK (n+1) (S .nils none 0):=
 iH (fun a:SV×Option SB×Nat=>S a.1 a.2.1 a.2.2) (fun a=>n - a.2.2) (fun a=>a.2.2<=n/\bU e 1 0 kQ (F a.2.2) a.1 a.2.1) (fun ⟨o,b,i⟩ ⟨h1,h2⟩ X hX=>by
  simp only at h1 h2 hX|-
  by_cases h:i<n
  ·exact hr i o b h h2 X fun o' b' ht=>hX (o',b',i+1) ⟨h,ht⟩ (by show n - (i+1)<n - i;omega)
  ·obtain rfl:i=n:=by omega
   exact he o b h2 X) (n+1) (.nils,none,0) ⟨cn _,by rw [h0];exact lS⟩ (by show n - 0<n+1;omega)
theorem D4{a b:List Int}: ∀i:Nat,i<2->(aG [a,b] i).length=1/\(aG [a,b] i).all bE=true:=fun i hi=>by
 match i,hi with
 |0,_=>exact ⟨rfl,rfl⟩
 |1,_=>exact ⟨rfl,rfl⟩
theorem cU.cells{g:Nat->List SV}{p:List (List Int)}(h:cU g p): ∀i,i<p.length->(g i).length=1/\(g i).all bE=true:=fun i hi=>by rw [h i hi];exact ⟨rfl,rfl⟩
theorem dR(p:List (List Int)):cU (aG p) p:=fun _ h=>rV h
theorem vN{w:List Int}{g:Nat->List SV}{p:List (List Int)}(h:cU g p):cU (qM 1 (fun i=>cut [.str (bytesOf w)] (i*1) 1) g) (w::p):=fun j hj=>by
 cases j with
 |zero=>rfl
 |succ j=>exact h j (by simpa using hj)
structure bO (w:List Int) (p:List (List Int)):Prop where
 ne:0<p.length
 inB:bH (lnW w p)
 len:(lnW w p).length<=1073741824
theorem bO.pos{w:List Int}{p:List (List Int)}(_:bO w p):0<(lnW w p).length:=by unfold lnW;rw [au];exact de _
theorem OP(p:List (List Int)):p.length<=(eL p).length:=by rw [JC];omega
theorem bO.facts{w:List Int}{p:List (List Int)}(h:bO w p):aD (bytesOf (eK (w::p))++(⟨#[10]⟩:ByteArray))=lnW w p/\(eK (w::p)).length<=1099511627776/\1+p.length<=1073741824/\(eK (w::p)).length+1<=1099511627776:=by
 have e:lnW w p=eK (w::p)++[10]:=rfl
 have hl:=h.len
 rw [e,au] at hl
 have hl:(eK (w::p)).length+1<=1073741824:=hl
 have hp:=OP p
 have hj:(eK (w::p)).length=w.length+(eL p).length:=au
 refine ⟨?_,by omega,by omega,by omega⟩
 rw [aEi,cX (fun x hx=>h.inB x (by rw [e];exact List.mem_append_left _ hx))]
 rfl
def lZ(l l0 w:List Int)(p:List (List Int)):Prop:=l=l0++lnW w p
def gZ(l l0 m:List Int):Prop:=l=l0++m
def aLR(fn:Func)(path:List Nat)(nt:Nat)(l:mQ):SB:=
 match tA (LN fn) path with
 | .rangeFunc _ ps a b=> .loop (qW l (o8 a++o8 b)) nt ps.toList a b .ready
 |_=> .cells 0 []
def aDb(a:Nat):Nat->mQ
 |0=>[]
 |n+1=>(a+n,.junk)::aDb a n
def cW(p:List (List Int)):Prop:= ∀x,x∈p->bH x/\x.length<=42
theorem C1 : ∀{p:List (List Int)},cW p->bH (eL p)/\(eL p).length<=43*p.length
 | [],_=>⟨fun x hx=>(by cases hx),av _⟩
 |w::r,h=>by
  obtain ⟨h1,h2⟩:=C1 (p:=r) fun x hx=>h x (bm _ hx)
  obtain ⟨h3,h4⟩:=h w (bq ..)
  refine ⟨fun x hx=> ?_, ?_⟩
  ·rcases cb.1 hx with rfl|hx
   ·decide
   ·rcases ct.1 hx with hx|hx
    ·exact h3 x hx
    ·exact h1 x hx
  ·show (w++eL r).length+1<=43*(r.length+1)
   rw [au];omega
theorem gH{w:List Int}{p:List (List Int)}(h:cW p):(lnW w p).length<=w.length+43*p.length+1:=by
 have:=(C1 h).2
 unfold lnW
 simp only [au,az,bw];omega
theorem bP{w:List Int}{p:List (List Int)}(hw:bH w/\w.length<=100)(h:cW p)(h0:0<p.length)(h1:p.length<=1000):bO w p where
 ne:=h0
 inB:=fun x hx=>by
  unfold lnW at hx
  rcases ct.1 hx with hx|hx
  ·rcases ct.1 hx with hx|hx
   ·exact hw.1 x hx
   ·exact (C1 h).1 x hx
  ·rw [aq.1 hx];decide
 len:=by have:=gH (w:=w) h;omega
theorem vV(f:Nat->Int)(a n:Nat):cW (dX f a n):=fun x hx=>by
 obtain ⟨i,_,rfl⟩:=fa.1 hx
 exact ⟨mF _,wP _⟩
theorem IJ(n:Int):(aH n).length<=42:=by
 unfold aH kS
 rw [au]
 have:=fS (aQ n) 1
 cases decide (n<0)<;>simp<;>omega
theorem vX(f:Nat->Int)(a n:Nat):cW (eZ f a n):=fun x hx=>by
 obtain ⟨i,_,rfl⟩:=fa.1 hx
 exact ⟨rJ _,IJ _⟩
theorem lQ(x y:Nat->Int): ∀(n a:Nat),cW (cY x y a n)
 |0,_=>fun z hz=>by cases hz
 |n+1,a=>fun z hz=>by
  rcases cb.1 hz with rfl|hz
  ·exact ⟨mF _,wP _⟩
  ·rcases cb.1 hz with rfl|hz
   ·exact ⟨mF _,wP _⟩
   ·exact lQ x y n (a+1) z hz
theorem kO{f:Nat->List Int}{B:Nat}(h: ∀i,(f i).length<=B): ∀(n a:Nat),(bL f a n).length<=n*B
 |0,_=>cn _
 |n+1,a=>by
  show (f a++bL f (a+1) n).length<=(n+1)*B
  have h1:=kO h n (a+1)
  have h2:=h a
  rw [au,bp,cj];omega
def zY(f:Nat->Int)(m r:Nat):List Int:=lnW gR (dX f (r*m) m)
def x7(f:Nat->Int)(m r:Nat):List Int:=lnW iO (eZ f (r*m) m)
theorem FF{f:Nat->Int}{m r:Nat}(h:m<=65):(zY f m r).length<=5000:=by
 have:=gH (w:=gR) (vV f (r*m) m)
 rw [gP,show gR.length=7 from rfl] at this
 unfold zY;omega
theorem GX{f:Nat->Int}{m r:Nat}(h:m<=65):(x7 f m r).length<=5000:=by
 have:=gH (w:=iO) (vX f (r*m) m)
 rw [gQ,show iO.length=6 from rfl] at this
 unfold x7;omega
theorem bD{w:List Int}(h:(w.all (fun x=>decide (0<=x)&&decide (x<=255))&&decide (w.length<=100))=true):bH w/\w.length<=100:=by
 simp only [af,gb,ak] at h
 exact ⟨fun x hx=>h.1 x hx,h.2⟩
theorem cN :cW []:=fun x hx=>by cases hx
theorem aJ{x:List Int}{p:List (List Int)}(h:bH x/\x.length<=42)(hp:cW p):cW (x::p):=fun y hy=>by
 rcases cb.1 hy with rfl|hy
 ·exact h
 ·exact hp y hy
theorem eB(n:Int):bH (aC n)/\(aC n).length<=42:=⟨mF n,wP n⟩
theorem sI(n:Int):bH (aH n)/\(aH n).length<=42:=⟨rJ n,IJ n⟩
theorem RG(b:Bool):bH (onW b)/\(onW b).length<=42:=by cases b<;>exact ⟨(bD rfl).1,by decide⟩
theorem JH(b:Bool):bH (gI b)/\(gI b).length<=42:=by cases b<;>exact ⟨(bD rfl).1,by decide⟩
theorem aA4{a b c:List Int}:cU (bK 2 [.str (bytesOf c)] (aG [a,b])) [a,b,c]:=fun j hj=>by
 match j,hj with
 |0,_=>rfl
 |1,_=>rfl
 |2,_=>rfl
 |j+3,hj=>exact absurd hj (by simp)
theorem aGu{a b c d e:List Int}:cU (bK 4 [.str (bytesOf e)] (aG [a,b,c,d])) [a,b,c,d,e]:=fun j hj=>by
 match j,hj with
 |0,_=>rfl
 |1,_=>rfl
 |2,_=>rfl
 |3,_=>rfl
 |4,_=>rfl
 |j+5,hj=>exact absurd hj (by simp)
theorem nZ{l l0 w:List Int}{p:List (List Int)}(h:lZ l l0 w p)(hp:cW p):l.length<=l0.length+(w.length+43*p.length+1):=by
 have:=gH (w:=w) hp
 unfold lZ at h
 rw [h,au];omega
structure G7 (t:Trk):Prop where
 cols:1<=t.cols/\t.cols<=64
 rows:1<=t.rows/\t.rows<=64
 nh:t.nh=(t.rows+1).toNat*(t.cols+1).toNat
 ng:t.ng=t.rows.toNat*t.cols.toNat
 nk:t.nk<=8
def vW(t:Trk)(i:Nat):List Int:=lnW iK [aC (t.kg i),aC (t.kd i),onW (t.ko i)]
end Go.Se
namespace Go.Proofs.YtghnfjfkjhbgdaaGreatDoor
open Go.Se
set_option maxRecDepth 100000
def inS(n:Nat)(f:Nat->Int)(o:SV)(r:Option SB)(i:Int):St:=⟨[(3,o),(6,.ro n 1 (aP f)),(7,.int .i64 n),(8,.int .i64 i)],[(0,r)],1,[0,1,2,3,4],19⟩
noncomputable abbrev inF :Func:=Tryz.f20
theorem aEy(n:Nat)(f:Nat->Int)(K:KC):cL muR (fun _=>0) n2 3 20 [.ro n 1 (aP f)] [] K=
 (∃q_,aV muE (aA muR 0) inF muP 0 0 K q_ {tmps:=[(3,SV.nils),(6,SV.ro n 1 (aP f)),(7,SV.int .i64 (↑n:Int)),(8,SV.int .i64 0)],store:=[(0,none)],nxt:=1,dirty:=[0,1,2,3,4],nt:=19}):=by kernel_rfl
theorem JU(n:Nat)(f:Nat->Int)(i:Nat)(K:Ex->St->Prop):aF muE (aA muR 0) inF muP 0 K (inS n f .nils none i)=
 (Br (decide ((↑i:Int)<(↑n:Int))) (Br (decide (0<=(↑i:Int))&&decide ((↑i:Int)<(↑n:Int))) (K Ex.normal {tmps:=[(3,SV.own 0 0 1 1),(6,SV.ro n 1 (aP f)),(7,SV.int .i64 (↑n:Int)),(8,SV.int .i64 (IntKind.i64.wrap ((↑i:Int)+1)))],store:=[(0,some (SB.row 9 1 1 fun (i_1:Nat)=>cut [SV.str (bytesOf (aH (f (↑i:Int).toNat)))] (i_1*1) 1))],nxt:=1,dirty:=[0,1,2,3,4],nt:=19}) (False)) (K (Ex.exit 0) {tmps:=[(3,SV.nils),(6,SV.ro n 1 (aP f)),(7,SV.int .i64 (↑n:Int)),(8,SV.int .i64 (↑i:Int))],store:=[(0,none)],nxt:=1,dirty:=[0,1,2,3,4],nt:=19})):=by kernel_rfl
theorem JL(n:Nat)(f:Nat->Int)(m:Nat)(g:Nat->List SV)(i:Nat)(K:Ex->St->Prop):aF muE (aA muR 0) inF muP 0 K (inS n f (.own 0 0 1 m) (some (.row 9 1 m g)) i)=
 (Br (decide ((↑i:Int)<(↑n:Int))) (Br (decide (0<=(↑i:Int))&&decide ((↑i:Int)<(↑n:Int))) (Br (decide ((m+1)*16<=1099511627776)&&decide (m+1<9223372036854775808)&&decide (m=m)) (K Ex.normal {tmps:=[(3,SV.own 0 0 1 (m+1)),(6,SV.ro n 1 (aP f)),(7,SV.int .i64 (↑n:Int)),(8,SV.int .i64 (IntKind.i64.wrap ((↑i:Int)+1)))],store:=[(0,some (SB.row 9 1 (m+1) (bK m [SV.str (bytesOf (aH (f (↑i:Int).toNat)))] g)))],nxt:=1,dirty:=[0,1,2,3,4],nt:=19}) (False)) (False)) (K (Ex.exit 0) {tmps:=[(3,SV.own 0 0 1 m),(6,SV.ro n 1 (aP f)),(7,SV.int .i64 (↑n:Int)),(8,SV.int .i64 (↑i:Int))],store:=[(0,some (SB.row 9 1 m g))],nxt:=1,dirty:=[0,1,2,3,4],nt:=19})):=by kernel_rfl
theorem aAu(n:Nat)(f:Nat->Int)(i:Nat)(K:KC):aB muE (aA muR 0) inF muP 0 K (.exit 0) (inS n f .nils none i)=
 (K SV.nils [] []):=by kernel_rfl
theorem aAS(n:Nat)(f:Nat->Int)(m:Nat)(g:Nat->List SV)(i:Nat)(K:KC):aB muE (aA muR 0) inF muP 0 K (.exit 0) (inS n f (.own 0 0 1 m) (some (.row 9 1 m g)) i)=
 (K (SV.own 0 0 1 m) [some (SB.row 9 1 m g)] []):=by kernel_rfl
theorem aJa(n:Nat)(f:Nat->Int)(hn:n<=1048576)(K:KC)(hK:lC 9 1 kQ (dX f 0 n) K):cL muR (fun _=>0) n2 3 57 [.ro n 1 (aP f)] [] K:=by
 rw [aEO]
 refine ⟨n+1, ?_⟩
 show iter (aF muE (aA muR 0) muF muP 0) (aB muE (aA muR 0) muF muP 0 K) (n+1) (muS n f .nils none ((0:Nat):Int))
 refine qA (e:=9) (dX f 0) (fun o b i=>muS n f o b i) n rfl (fun i o b hi ht X hX=> ?_) fun o b ht X=> ?_
 ·have hl:=gP f 0 i
  rcases ht with ⟨h0,rfl,rfl⟩|⟨g,hne,rfl,rfl,hg⟩
  ·rw [JD]
   refine Br.of (fun _=>Br.of (fun _=> ?_) fun c=>eA hi c) fun c=>iI hi c
   rw [aK hi (by omega)]
   exact hX _ _ (by rw [tV,h0];exact eT (by rw [am,bi];rfl) rfl)
  ·rw [H4]
   refine Br.of (fun _=>Br.of (fun _=>Br.of (fun _=> ?_) fun c=>I7 (m:=(dX f 0 i).length) (by omega) c) fun c=>eA hi c) fun c=>iI hi c
   rw [aK hi (by omega)]
   exact hX _ _ (by rw [tV];exact fQ (by rw [am,bi];rfl) rfl hg)
 ·rcases ht with ⟨h0,rfl,rfl⟩|⟨g,hne,rfl,rfl,hg⟩
  ·rw [JD]
   refine Br.of (fun c=>g7 c) fun _=> ?_
   show aB muE (aA muR 0) muF muP 0 K (.exit 0) (muS n f .nils none n)
   rw [aAr];exact hK.1 h0
  ·rw [H4]
   refine Br.of (fun c=>g7 c) fun _=> ?_
   show aB muE (aA muR 0) muF muP 0 K (.exit 0) (muS n f (.own 0 0 1 _) (some (.row 9 1 _ g)) n)
   rw [aBr];exact hK.2 g hne hg
theorem aJn(n:Nat)(f:Nat->Int)(hn:n<=1048576)(K:KC)(hK:lC 9 1 kQ (eZ f 0 n) K):cL muR (fun _=>0) n2 3 20 [.ro n 1 (aP f)] [] K:=by
 rw [aEy]
 refine ⟨n+1, ?_⟩
 show iter (aF muE (aA muR 0) inF muP 0) (aB muE (aA muR 0) inF muP 0 K) (n+1) (inS n f .nils none ((0:Nat):Int))
 refine qA (e:=9) (eZ f 0) (fun o b i=>inS n f o b i) n rfl (fun i o b hi ht X hX=> ?_) fun o b ht X=> ?_
 ·have hl:=gQ f 0 i
  rcases ht with ⟨h0,rfl,rfl⟩|⟨g,hne,rfl,rfl,hg⟩
  ·rw [JU]
   refine Br.of (fun _=>Br.of (fun _=> ?_) fun c=>eA hi c) fun c=>iI hi c
   rw [aK hi (by omega)]
   exact hX _ _ (by rw [t7,h0];exact eT (by rw [am,bi];rfl) rfl)
  ·rw [JL]
   refine Br.of (fun _=>Br.of (fun _=>Br.of (fun _=> ?_) fun c=>I7 (m:=(eZ f 0 i).length) (by omega) c) fun c=>eA hi c) fun c=>iI hi c
   rw [aK hi (by omega)]
   exact hX _ _ (by rw [t7];exact fQ (by rw [am,bi];rfl) rfl hg)
 ·rcases ht with ⟨h0,rfl,rfl⟩|⟨g,hne,rfl,rfl,hg⟩
  ·rw [JU]
   refine Br.of (fun c=>g7 c) fun _=> ?_
   show aB muE (aA muR 0) inF muP 0 K (.exit 0) (inS n f .nils none n)
   rw [aAu];exact hK.1 h0
  ·rw [JL]
   refine Br.of (fun c=>g7 c) fun _=> ?_
   show aB muE (aA muR 0) inF muP 0 K (.exit 0) (inS n f (.own 0 0 1 _) (some (.row 9 1 _ g)) n)
   rw [aAS];exact hK.2 g hne hg
theorem aKX(n:Nat)(f:Nat->Int)(hn:n<=1048576):aE Tryz.prog 57 [.ro n 1 (aP f)] [] (.ro n 1 (aG (dX f 0 n))) [] []:=by
 have:=nI (d0:=[]) (R:=muR) (u:=fun _=>0) (B:=n2) (n:=3) (k:=57) (xs:=[.ro n 1 (aP f)]) (e:=9) (f:=kQ) (L:=dX f 0 n) (fun _=>rfl) fun _ K hK=>aJa n f hn K hK
 rw [gP] at this;exact this
theorem aI3(n:Nat)(f:Nat->Int)(hn:n<=1048576):aE Tryz.prog 20 [.ro n 1 (aP f)] [] (.ro n 1 (aG (eZ f 0 n))) [] []:=by
 have:=nI (d0:=[]) (R:=muR) (u:=fun _=>0) (B:=n2) (n:=3) (k:=20) (xs:=[.ro n 1 (aP f)]) (e:=9) (f:=kQ) (L:=eZ f 0 n) (fun _=>rfl) fun _ K hK=>aJn n f hn K hK
 rw [gQ] at this;exact this
theorem HO{k:FuncId}{xs:List SV}{σ:List (Option SB)}{v:SV}{b:SB}{e n:Nat}{p:List (List Int)}(hn:n=p.length)(h:aE Tryz.prog k xs σ v [some b,some (.lst e (xI p))] []):aE Tryz.prog k xs σ v [some b,some (.row e 1 n (aG p))] []:=
 vP (σ1:=[some b,some (.lst e (xI p))]) rfl (fun q=>by match q with|0=>simp|1=>simp|q+2=>simp) (fun q sb hq=>by
  match q,hq with
  |0,hq=>cases hq;exact ⟨_,rfl,fun _ _ _ _ h=>h⟩
  |1,hq=>cases hq;exact ⟨_,rfl,fun _ _ _ _ h=>aAk hn h⟩) h
theorem aJc(t:TypeId)(a:Int):aE Tryz.prog 57 [.arr 0 0 1 1] [some (.cells t [.int .i64 a])] (.own 1 0 1 1) [some (.cells t [.int .i64 a]),some (.row 9 1 1 (aG [aC a]))] []:=
 HO rfl (dT 3 n2 3 fun _ _ K hK=>by rw [aIO];exact hK)
theorem aIT(t:TypeId)(a b:Int):aE Tryz.prog 57 [.arr 0 0 2 2] [some (.cells t [.int .i64 a,.int .i64 b])] (.own 1 0 1 2) [some (.cells t [.int .i64 a,.int .i64 b]),some (.row 9 1 2 (aG [aC a,aC b]))] []:=
 HO rfl (dT 4 n2 3 fun _ _ K hK=>by rw [aJY];exact hK)
theorem aJ9(t:TypeId)(a:Int):aE Tryz.prog 20 [.arr 0 0 1 1] [some (.cells t [.int .i64 a])] (.own 1 0 1 1) [some (.cells t [.int .i64 a]),some (.row 9 1 1 (aG [aH a]))] []:=
 HO rfl (dT 3 n2 3 fun _ _ K hK=>by rw [aKo];exact hK)
theorem aI2(t:TypeId)(a b:Int):aE Tryz.prog 20 [.arr 0 0 2 2] [some (.cells t [.int .i64 a,.int .i64 b])] (.own 1 0 1 2) [some (.cells t [.int .i64 a,.int .i64 b]),some (.row 9 1 2 (aG [aH a,aH b]))] []:=
 HO rfl (dT 4 n2 3 fun _ _ K hK=>by rw [aIS];exact hK)
def cNu(T:(Nat->Int)->Nat->List (List Int))(W:Int->List Int):List SV->List (Option SB)->KC->Prop
 | [.ro n 1 g],[],K=> ∃f:Nat->Int,(g=aP f/\n<=1048576)/\K (.ro n 1 (aG (T f n))) [] []
 | [.arr 0 0 1 1],[some (.cells t [.int .i64 a])],K=>K (.own 1 0 1 1) [some (.cells t [.int .i64 a]),some (.row 9 1 1 (aG [W a]))] []
 | [.arr 0 0 2 2],[some (.cells t [.int .i64 a,.int .i64 b])],K=>K (.own 1 0 1 2) [some (.cells t [.int .i64 a,.int .i64 b]),some (.row 9 1 2 (aG [W a,W b]))] []
 |_,_,_=>False
theorem aIR(xs:List SV)(σ:List (Option SB)):Sat Tryz.prog 57 xs σ (cNu (fun f n=>dX f 0 n) aC xs σ):=by
 intro K hK
 unfold cNu at hK
 split at hK
 case h_4=>exact hK.elim
 ·obtain ⟨f,⟨rfl,h⟩,hK⟩:=hK;exact ⟨_,_,_,hK,aKX _ f h⟩
 ·exact ⟨_,_,_,hK,aJc _ _⟩
 ·exact ⟨_,_,_,hK,aIT _ _ _⟩
theorem aKD(xs:List SV)(σ:List (Option SB)):Sat Tryz.prog 20 xs σ (cNu (fun f n=>eZ f 0 n) aH xs σ):=by
 intro K hK
 unfold cNu at hK
 split at hK
 case h_4=>exact hK.elim
 ·obtain ⟨f,⟨rfl,h⟩,hK⟩:=hK;exact ⟨_,_,_,hK,aI3 _ f h⟩
 ·exact ⟨_,_,_,hK,aJ9 _ _⟩
 ·exact ⟨_,_,_,hK,aI2 _ _ _⟩
noncomputable def n3 :bT Tryz.prog:=((n2).add 57 (cNu (fun f n=>dX f 0 n) aC) aIR).add 20 (cNu (fun f n=>eZ f 0 n) aH) aKD
noncomputable abbrev plE :Env:=fG muR (fun _=>0) n3 2
noncomputable abbrev plF :Func:=Tryz.f18
def plS(n:Nat)(x y:Nat->Int)(o:SV)(r:Option SB)(i:Int):St:=⟨[(3,o),(6,.ro n 2 (bA x y)),(7,.int .i64 n),(8,.int .i64 i)],[(0,r)],1,[0,1,2,3,4],22⟩
theorem aDj(n:Nat)(x y:Nat->Int)(K:KC):cL muR (fun _=>0) n3 3 18 [.ro n 2 (bA x y)] [] K=
 (∃q_,aV plE (aA muR 0) plF muP 0 0 K q_ {tmps:=[(3,SV.nils),(6,SV.ro n 2 (bA x y)),(7,SV.int .i64 (↑n:Int)),(8,SV.int .i64 0)],store:=[(0,none)],nxt:=1,dirty:=[0,1,2,3,4],nt:=22}):=by kernel_rfl
theorem JJ(n:Nat)(x y:Nat->Int)(i:Nat)(K:Ex->St->Prop):aF plE (aA muR 0) plF muP 0 K (plS n x y .nils none i)=
 (Br (decide ((↑i:Int)<(↑n:Int))) (Br (decide (0<=(↑i:Int))&&decide ((↑i:Int)<(↑n:Int))) ((∀(i_1:Nat),i_1<2->(aG [aC (x (↑i:Int).toNat),aC (y (↑i:Int).toNat)] i_1).length=1/\(aG [aC (x (↑i:Int).toNat),aC (y (↑i:Int).toNat)] i_1).all bE=true)/\(K Ex.normal {tmps:=[(3,SV.own 0 0 1 2),(6,SV.ro n 2 (bA x y)),(7,SV.int .i64 (↑n:Int)),(8,SV.int .i64 (IntKind.i64.wrap ((↑i:Int)+1)))],store:=[(0,some (SB.row 9 1 2 (aG [aC (x (↑i:Int).toNat),aC (y (↑i:Int).toNat)])))],nxt:=1,dirty:=[0,1,2,3,4],nt:=22})) (False)) (K (Ex.exit 0) {tmps:=[(3,SV.nils),(6,SV.ro n 2 (bA x y)),(7,SV.int .i64 (↑n:Int)),(8,SV.int .i64 (↑i:Int))],store:=[(0,none)],nxt:=1,dirty:=[0,1,2,3,4],nt:=22})):=by kernel_rfl
theorem IA(n:Nat)(x y:Nat->Int)(m:Nat)(g:Nat->List SV)(i:Nat)(K:Ex->St->Prop):aF plE (aA muR 0) plF muP 0 K (plS n x y (.own 0 0 1 m) (some (.row 9 1 m g)) i)=
 (Br (decide ((↑i:Int)<(↑n:Int))) (Br (decide (0<=(↑i:Int))&&decide ((↑i:Int)<(↑n:Int))) ((∀(i_1:Nat),i_1<2->(aG [aC (x (↑i:Int).toNat),aC (y (↑i:Int).toNat)] i_1).length=1/\(aG [aC (x (↑i:Int).toNat),aC (y (↑i:Int).toNat)] i_1).all bE=true)/\(Br (true&&decide (m=m)&&(decide ((m+2)*16<=1099511627776)&&decide (m+2<9223372036854775808))) (K Ex.normal {tmps:=[(3,SV.own 0 0 1 (m+2)),(6,SV.ro n 2 (bA x y)),(7,SV.int .i64 (↑n:Int)),(8,SV.int .i64 (IntKind.i64.wrap ((↑i:Int)+1)))],store:=[(0,some (SB.row 9 1 (m+2) (qM m g (aG [aC (x (↑i:Int).toNat),aC (y (↑i:Int).toNat)]))))],nxt:=1,dirty:=[0,1,2,3,4],nt:=22}) (False))) (False)) (K (Ex.exit 0) {tmps:=[(3,SV.own 0 0 1 m),(6,SV.ro n 2 (bA x y)),(7,SV.int .i64 (↑n:Int)),(8,SV.int .i64 (↑i:Int))],store:=[(0,some (SB.row 9 1 m g))],nxt:=1,dirty:=[0,1,2,3,4],nt:=22})):=by kernel_rfl
theorem YE(n:Nat)(x y:Nat->Int)(i:Nat)(K:KC):aB plE (aA muR 0) plF muP 0 K (.exit 0) (plS n x y .nils none i)=
 (K SV.nils [] []):=by kernel_rfl
theorem aAR(n:Nat)(x y:Nat->Int)(m:Nat)(g:Nat->List SV)(i:Nat)(K:KC):aB plE (aA muR 0) plF muP 0 K (.exit 0) (plS n x y (.own 0 0 1 m) (some (.row 9 1 m g)) i)=
 (K (SV.own 0 0 1 m) [some (SB.row 9 1 m g)] []):=by kernel_rfl
theorem aKJ(t:TypeId)(a b:Int)(K:KC):kC 3 n3 3 18 [.arr 0 0 1 1] [some (.cells t [.int .i64 a,.int .i64 b])] K=
 ((∀(i:Nat),i<2->(aG [aC a,aC b] i).length=1/\(aG [aC a,aC b] i).all bE=true)/\(K (SV.own 1 0 1 2) [some (SB.cells t [SV.int .i64 a,SV.int .i64 b]),some (SB.row 9 1 2 (aG [aC a,aC b]))] [])):=by kernel_rfl
theorem aJp(t:TypeId)(a b c d:Int)(K:KC):kC 4 n3 3 18 [.arr 0 0 2 2] [some (.cells t [.int .i64 a,.int .i64 b,.int .i64 c,.int .i64 d])] K=
 ((∀(i:Nat),i<2->(aG [aC a,aC b] i).length=1/\(aG [aC a,aC b] i).all bE=true)/\((∀(i:Nat),i<2->(aG [aC c,aC d] i).length=1/\(aG [aC c,aC d] i).all bE=true)/\(K (SV.own 1 0 1 4) [some (SB.cells t [SV.int .i64 a,SV.int .i64 b,SV.int .i64 c,SV.int .i64 d]),some (SB.row 9 1 4 (qM 2 (aG [aC a,aC b]) (aG [aC c,aC d])))] []))):=by kernel_rfl
theorem aKY(s:ByteArray)(n:Nat)(g:Nat->List SV)(K:KC):run n3 3 17 [.agg [.ptr 0 0],.str s,.own 1 0 1 n] [some (.cells sbT [.nilp,.nils]),some (.row 9 1 n g)] K=
 ((∀(i:Nat),i<n->(g i).length=1/\(g i).all bE=true)/\(Br (decide (n<=n)&&decide (0<n)&&(decide ((1+n)*16<=1099511627776)&&decide (1+n<9223372036854775808))) (∃(e398:List (List Int)),((1+n=e398.length/\1+n=1+n/\cU (qM 1 (fun (i:Nat)=>cut [SV.str s] (i*1) 1) g) e398)/\(⟨#[32]⟩:ByteArray)=(⟨#[32]⟩:ByteArray)/\(eK e398).length<=1099511627776/\1+n<=1099511627776)/\(Br (decide ((bytesOf (eK e398)).size+1<9223372036854775808)) ((0<(bytesOf (eK e398)++(⟨#[10]⟩:ByteArray)).size/\(bytesOf (eK e398)++(⟨#[10]⟩:ByteArray)).size<=1099511627776)/\(K (SV.tup []) [some (SB.cells 49 [SV.ptr 0 0,SV.own 2 0 1 (bytesOf (eK e398)++(⟨#[10]⟩:ByteArray)).size]),some (SB.row 9 1 n g),some (SB.row 5 1 (bytesOf (eK e398)++(⟨#[10]⟩:ByteArray)).size (tG (aD (bytesOf (eK e398)++(⟨#[10]⟩:ByteArray)))))] [0])) (False))) (False))):=by kernel_rfl
theorem aJo(s:ByteArray)(m:Nat)(h:Nat->List SV)(n:Nat)(g:Nat->List SV)(K:KC):run n3 3 17 [.agg [.ptr 0 0],.str s,.own 2 0 1 n] [some (.cells sbT [.ptr 0 0,.own 1 0 1 m]),some (.row 5 1 m h),some (.row 9 1 n g)] K=
 ((∀(i:Nat),i<n->(g i).length=1/\(g i).all bE=true)/\(Br (decide (n<=n)&&decide (0<n)&&(decide ((1+n)*16<=1099511627776)&&decide (1+n<9223372036854775808))) (∃(e398:List (List Int)),((1+n=e398.length/\1+n=1+n/\cU (qM 1 (fun (i:Nat)=>cut [SV.str s] (i*1) 1) g) e398)/\(⟨#[32]⟩:ByteArray)=(⟨#[32]⟩:ByteArray)/\(eK e398).length<=1099511627776/\1+n<=1099511627776)/\(Br (decide ((bytesOf (eK e398)).size+1<9223372036854775808)) (∃(e395:List Int),((m=e395.length/\m=e395.length/\h=tG e395)/\e395.length+(bytesOf (eK e398)++(⟨#[10]⟩:ByteArray)).size<=1099511627776)/\(K (SV.tup []) [some (SB.cells 49 [SV.ptr 0 0,SV.own 3 0 1 (e395++aD (bytesOf (eK e398)++(⟨#[10]⟩:ByteArray))).length]),none,some (SB.row 9 1 n g),some (SB.row 5 1 (e395++aD (bytesOf (eK e398)++(⟨#[10]⟩:ByteArray))).length (tG (e395++aD (bytesOf (eK e398)++(⟨#[10]⟩:ByteArray)))))] [1,0])) (False))) (False))):=by kernel_rfl
theorem aLy(s:ByteArray)(m:Nat)(h:Nat->List SV)(n:Nat)(g:Nat->List SV)(K:KC):run n3 3 17 [.agg [.ptr 0 0],.str s,.ro n 1 g] [some (.cells sbT [.ptr 0 0,.own 1 0 1 m]),some (.row 5 1 m h)] K=
 ((∀(i:Nat),i<n->(g i).length=1/\(g i).all bE=true)/\(Br (true&&decide (0<n)&&(decide ((1+n)*16<=1099511627776)&&decide (1+n<9223372036854775808))) (∃(e398:List (List Int)),((1+n=e398.length/\1+n=1+n/\cU (qM 1 (fun (i:Nat)=>cut [SV.str s] (i*1) 1) g) e398)/\(⟨#[32]⟩:ByteArray)=(⟨#[32]⟩:ByteArray)/\(eK e398).length<=1099511627776/\1+n<=1099511627776)/\(Br (decide ((bytesOf (eK e398)).size+1<9223372036854775808)) (∃(e395:List Int),((m=e395.length/\m=e395.length/\h=tG e395)/\e395.length+(bytesOf (eK e398)++(⟨#[10]⟩:ByteArray)).size<=1099511627776)/\(K (SV.tup []) [some (SB.cells 49 [SV.ptr 0 0,SV.own 2 0 1 (e395++aD (bytesOf (eK e398)++(⟨#[10]⟩:ByteArray))).length]),none,some (SB.row 5 1 (e395++aD (bytesOf (eK e398)++(⟨#[10]⟩:ByteArray))).length (tG (e395++aD (bytesOf (eK e398)++(⟨#[10]⟩:ByteArray)))))] [1,0])) (False))) (False))):=by kernel_rfl
theorem aJS(n:Nat)(x y:Nat->Int)(hn:n<=1048576)(K:KC)(hK:lC 9 1 kQ (cY x y 0 n) K):cL muR (fun _=>0) n3 3 18 [.ro n 2 (bA x y)] [] K:=by
 rw [aDj]
 refine ⟨n+1, ?_⟩
 show iter (aF plE (aA muR 0) plF muP 0) (aB plE (aA muR 0) plF muP 0 K) (n+1) (plS n x y .nils none ((0:Nat):Int))
 refine qA (e:=9) (cY x y 0) (fun o b i=>plS n x y o b i) n rfl (fun i o b hi ht X hX=> ?_) fun o b ht X=> ?_
 ·have hl:=eU x y i 0
  rcases ht with ⟨h0,rfl,rfl⟩|⟨g,hne,rfl,rfl,hg⟩
  ·rw [JJ]
   refine Br.of (fun _=>Br.of (fun _=>⟨D4, ?_⟩) fun c=>eA hi c) fun c=>iI hi c
   rw [aK hi (by omega),am]
   refine hX _ _ ?_
   rw [pF,h0,bi]
   exact .inr ⟨_,by simp,rfl,rfl,fun j hj=>rV hj⟩
  ·rw [IA]
   refine Br.of (fun _=>Br.of (fun _=>⟨D4,Br.of (fun _=> ?_) fun c=>absurd c (by simp;omega)⟩) fun c=>eA hi c) fun c=>iI hi c
   rw [aK hi (by omega),am]
   refine hX _ _ ?_
   rw [pF,bi]
   exact ZN (by simp) rfl rfl hg fun j hj=>rV hj
 ·rcases ht with ⟨h0,rfl,rfl⟩|⟨g,hne,rfl,rfl,hg⟩
  ·rw [JJ]
   refine Br.of (fun c=>g7 c) fun _=> ?_
   show aB plE (aA muR 0) plF muP 0 K (.exit 0) (plS n x y .nils none n)
   rw [YE];exact hK.1 h0
  ·rw [IA]
   refine Br.of (fun c=>g7 c) fun _=> ?_
   show aB plE (aA muR 0) plF muP 0 K (.exit 0) (plS n x y (.own 0 0 1 _) (some (.row 9 1 _ g)) n)
   rw [aAR];exact hK.2 g hne hg
theorem aKc(n:Nat)(x y:Nat->Int)(hn:n<=1048576):aE Tryz.prog 18 [.ro n 2 (bA x y)] [] (.ro (2*n) 1 (aG (cY x y 0 n))) [] []:=by
 have:=nI (d0:=[]) (R:=muR) (u:=fun _=>0) (B:=n3) (n:=3) (k:=18) (xs:=[.ro n 2 (bA x y)]) (e:=9) (f:=kQ) (L:=cY x y 0 n) (fun _=>rfl) fun _ K hK=>aJS n x y hn K hK
 rw [eU] at this;exact this
theorem aJy(t:TypeId)(a b:Int):aE Tryz.prog 18 [.arr 0 0 1 1] [some (.cells t [.int .i64 a,.int .i64 b])] (.own 1 0 1 2) [some (.cells t [.int .i64 a,.int .i64 b]),some (.row 9 1 2 (aG [aC a,aC b]))] []:=
 dT 3 n3 3 fun _ _ K hK=>by rw [aKJ];exact ⟨D4,hK⟩
theorem aMG{k:FuncId}{xs:List SV}{σ:List (Option SB)}{v:SV}{b:SB}{e n:Nat}{g g':Nat->List SV}(h: ∀i,i<n->g i=g' i)(hc:aE Tryz.prog k xs σ v [some b,some (.row e 1 n g)] []):aE Tryz.prog k xs σ v [some b,some (.row e 1 n g')] []:=
 vP (σ1:=[some b,some (.row e 1 n g)]) rfl (fun q=>by match q with|0=>simp|1=>simp|q+2=>simp) (fun q sb hq=>by
  match q,hq with
  |0,hq=>cases hq;exact ⟨_,rfl,fun _ _ _ _ h=>h⟩
  |1,hq=>cases hq;exact ⟨_,rfl,fun _ _ _ _ hr=>BB h hr⟩) hc
theorem aJm(t:TypeId)(a b c d:Int):aE Tryz.prog 18 [.arr 0 0 2 2] [some (.cells t [.int .i64 a,.int .i64 b,.int .i64 c,.int .i64 d])] (.own 1 0 1 4) [some (.cells t [.int .i64 a,.int .i64 b,.int .i64 c,.int .i64 d]),some (.row 9 1 4 (aG [aC a,aC b,aC c,aC d]))] []:=
 aMG (g:=qM 2 (aG [aC a,aC b]) (aG [aC c,aC d])) (fun i hi=>by match i,hi with|0,_=>rfl|1,_=>rfl|2,_=>rfl|3,_=>rfl|i+4,hi=>omega) (dT 4 n3 3 fun _ _ K hK=>by rw [aJp];exact ⟨D4,D4,hK⟩)
def cPl :List SV->List (Option SB)->KC->Prop
 | [.ro n 2 g],[],K=> ∃x y:Nat->Int,(g=bA x y/\n<=1048576)/\K (.ro (2*n) 1 (aG (cY x y 0 n))) [] []
 | [.arr 0 0 1 1],[some (.cells t [.int .i64 a,.int .i64 b])],K=>K (.own 1 0 1 2) [some (.cells t [.int .i64 a,.int .i64 b]),some (.row 9 1 2 (aG [aC a,aC b]))] []
 | [.arr 0 0 2 2],[some (.cells t [.int .i64 a,.int .i64 b,.int .i64 c,.int .i64 d])],K=>K (.own 1 0 1 4) [some (.cells t [.int .i64 a,.int .i64 b,.int .i64 c,.int .i64 d]),some (.row 9 1 4 (aG [aC a,aC b,aC c,aC d]))] []
 |_,_,_=>False
theorem aHq(xs:List SV)(σ:List (Option SB)):Sat Tryz.prog 18 xs σ (cPl xs σ):=by
 intro K hK
 unfold cPl at hK
 split at hK
 case h_4=>exact hK.elim
 ·obtain ⟨x,y,⟨rfl,h⟩,hK⟩:=hK;exact ⟨_,_,_,hK,aKc _ x y h⟩
 ·exact ⟨_,_,_,hK,aJy _ _ _⟩
 ·exact ⟨_,_,_,hK,aJm _ _ _ _ _⟩
def cLn :List SV->List (Option SB)->KC->Prop
 | [.agg [.ptr 0 0],.str s,.own 1 0 1 n],[some (.cells 49 [.nilp,.nils]),some (.row 9 1 n' g)],K=> ∃(w:List Int) (p:List (List Int)),((s=bytesOf w/\n=p.length/\n'=n/\cU g p)/\bO w p)/\
   ∀l:List Int,lZ l [] w p->K (.tup []) [some (.cells 49 [.ptr 0 0,.own 2 0 1 l.length]),some (.row 9 1 n g),some (.row 5 1 l.length (tG l))] [0]
 | [.agg [.ptr 0 0],.str s,.own 2 0 1 n],[some (.cells 49 [.ptr 0 0,.own 1 0 1 m]),some (.row 5 1 m' h),some (.row 9 1 n' g)],K=> ∃(w:List Int) (p:List (List Int)) (l0:List Int),((s=bytesOf w/\n=p.length/\n'=n/\cU g p)/\bO w p/\m=l0.length/\m'=l0.length/\h=tG l0/\l0.length<=1073741824)/\
   ∀l:List Int,lZ l l0 w p->K (.tup []) [some (.cells 49 [.ptr 0 0,.own 3 0 1 l.length]),none,some (.row 9 1 n g),some (.row 5 1 l.length (tG l))] [1,0]
 | [.agg [.ptr 0 0],.str s,.ro n 1 g],[some (.cells 49 [.ptr 0 0,.own 1 0 1 m]),some (.row 5 1 m' h)],K=> ∃(w:List Int) (p:List (List Int)) (l0:List Int),((s=bytesOf w/\n=p.length/\cU g p)/\bO w p/\m=l0.length/\m'=l0.length/\h=tG l0/\l0.length<=1073741824)/\
   ∀l:List Int,lZ l l0 w p->K (.tup []) [some (.cells 49 [.ptr 0 0,.own 2 0 1 l.length]),none,some (.row 5 1 l.length (tG l))] [1,0]
 |_,_,_=>False
theorem aKt(xs:List SV)(σ:List (Option SB)):Sat Tryz.prog 17 xs σ (cLn xs σ):=by
 intro K hK
 unfold cLn at hK
 split at hK
 case h_4=>exact hK.elim
 ·obtain ⟨w,p,⟨⟨rfl,rfl,rfl,hg⟩,ho⟩,hK⟩:=hK
  obtain ⟨e1,e2,e3,e4⟩:=ho.facts
  refine ⟨_,_,_,hK _ rfl,aS n3 3 fun _ _ K hK=> ?_⟩
  rw [aKY]
  refine ⟨hg.cells,Br.of (fun _=>⟨w::p,⟨⟨by simp;omega,rfl,vN hg⟩,rfl,e2,by omega⟩,Br.of (fun _=> ?_) fun c=>absurd (ae c) (by rw [aM];omega)⟩) fun c=>absurd c (by have:=ho.ne;simp;omega)⟩
  have e5:=cF (bytesOf (eK (w::p))++(⟨#[10]⟩:ByteArray))
  rw [e1] at e5|-
  rw [<- e5]
  exact ⟨⟨by have:=ho.pos;omega,by have:=ho.len;omega⟩,hK⟩
 ·obtain ⟨w,p,l0,⟨⟨rfl,rfl,rfl,hg⟩,ho,rfl,rfl,rfl,hl⟩,hK⟩:=hK
  obtain ⟨e1,e2,e3,e4⟩:=ho.facts
  refine ⟨_,_,_,hK _ rfl,aS n3 3 fun _ _ K hK=> ?_⟩
  rw [aJo]
  refine ⟨hg.cells,Br.of (fun _=>⟨w::p,⟨⟨by simp;omega,rfl,vN hg⟩,rfl,e2,by omega⟩,Br.of (fun _=>⟨l0,⟨⟨rfl,rfl,rfl⟩, ?_⟩, ?_⟩) fun c=>absurd (ae c) (by rw [aM];omega)⟩) fun c=>absurd c (by have:=ho.ne;simp;omega)⟩
  ·rw [<- cF,e1];have:=ho.len;omega
  ·rw [e1];exact hK
 ·obtain ⟨w,p,l0,⟨⟨rfl,rfl,hg⟩,ho,rfl,rfl,rfl,hl⟩,hK⟩:=hK
  obtain ⟨e1,e2,e3,e4⟩:=ho.facts
  refine ⟨_,_,_,hK _ rfl,aS n3 3 fun _ _ K hK=> ?_⟩
  rw [aLy]
  refine ⟨hg.cells,Br.of (fun _=>⟨w::p,⟨⟨by simp;omega,rfl,vN hg⟩,rfl,e2,by omega⟩,Br.of (fun _=>⟨l0,⟨⟨rfl,rfl,rfl⟩, ?_⟩, ?_⟩) fun c=>absurd (ae c) (by rw [aM];omega)⟩) fun c=>absurd c (by have:=ho.ne;simp;omega)⟩
  ·rw [<- cF,e1];have:=ho.len;omega
  ·rw [e1];exact hK
noncomputable def n4 :bT Tryz.prog:=((n3).add 18 cPl aHq).add 17 cLn aKt
noncomputable abbrev gdF :Func:=Tryz.f16
def gdT :mQ:=aDb 9 32++[(3,.junk),(2,.ptr 1 0),(0,.junk),(1,.junk)]
noncomputable def grA :SB:=aLR gdF [1,1,1,1,1,0,1,0] 77 gdT
noncomputable def grB :SB:=aLR gdF [1,1,1,1,1,1,0,1,0] 77 (aDb 46 5++gdT)
def ckR :List (Nat×eI×List ((Nat×List Nat)×Nat)):=[(0,⟨[0,1,2,4],[0,1,2,4,5,6],[0,1,2,3,4,5,6,7,8,9,10],7,[]⟩,[((0,[2,0,1]),6)])]
noncomputable abbrev ckE :Env:=aFD ckR (fun _=>0) n4 3
noncomputable abbrev ckF :Func:=Tryz.f103
noncomputable abbrev ciF :Func:=Tryz.f104
abbrev pgT :TypeId:=51
theorem aDe(n:Nat)(f:Nat->Int)(c:Int)(l:List Int)(K:KC):EM ckR (fun _=>0) n4 4 103 [.yld 0,.ptr 4 0,.ptr 5 0] [some grA,some (.cells pgT [.ptr 2 0]),some (.cells sbT [.ptr 2 0,.own 3 0 1 l.length]),some (.row 5 1 l.length (tG l)),some (.cells 25 [.ro n 1 (aP f)]),some (.cells 3 [.int .i64 c])] K=
 (∃q_,aV ckE (cM ckR 6) ckF [1,0] 0 6 K q_ {tmps:=[(0,SV.yld 0),(1,SV.ptr 4 0),(2,SV.ptr 5 0),(4,SV.int .i64 0)],store:=[(0,some (grA)),(1,some (SB.cells 51 [SV.ptr 2 0])),(2,some (SB.cells 49 [SV.ptr 2 0,SV.own 6 0 1 l.length])),(4,some (SB.cells 25 [SV.ro n 1 (aP f)])),(5,some (SB.cells 3 [SV.int .i64 c])),(6,some (SB.row 5 1 l.length (tG l)))],nxt:=7,dirty:=[0,1,2,3,4,5,6,7,8,9,10],nt:=31}):=by kernel_rfl
theorem aBx(n:Nat)(f:Nat->Int)(c:Int)(l:List Int)(K:KC):EM ckR (fun _=>0) n4 4 104 [.yld 0,.ptr 4 0,.ptr 5 0] [some grB,some (.cells pgT [.ptr 2 0]),some (.cells sbT [.ptr 2 0,.own 3 0 1 l.length]),some (.row 5 1 l.length (tG l)),some (.cells 26 [.ro n 1 (aP f)]),some (.cells 3 [.int .i64 c])] K=
 (∃q_,aV ckE (cM ckR 6) ciF [1,0] 0 6 K q_ {tmps:=[(0,SV.yld 0),(1,SV.ptr 4 0),(2,SV.ptr 5 0),(4,SV.int .i64 0)],store:=[(0,some (grB)),(1,some (SB.cells 51 [SV.ptr 2 0])),(2,some (SB.cells 49 [SV.ptr 2 0,SV.own 6 0 1 l.length])),(4,some (SB.cells 26 [SV.ro n 1 (aP f)])),(5,some (SB.cells 3 [SV.int .i64 c])),(6,some (SB.row 5 1 l.length (tG l)))],nxt:=7,dirty:=[0,1,2,3,4,5,6,7,8,9,10],nt:=31}):=by kernel_rfl
noncomputable def ckS(r:SB)(T:TypeId)(n:Nat)(f:Nat->Int)(c:Int)(l:List Int)(i:Int):St:=⟨[(0,.yld 0),(1,.ptr 4 0),(2,.ptr 5 0),(4,.int .i64 i)],[(0,some r),(1,some (.cells pgT [.ptr 2 0])),(2,some (.cells sbT [.ptr 2 0,.own 6 0 1 l.length])),(4,some (.cells T [.ro n 1 (aP f)])),(5,some (.cells 3 [.int .i64 c])),(6,some (.row 5 1 l.length (tG l)))],7,[0,1,2,3,4,5,6,7,8,9,10],31⟩
theorem QR(n:Nat)(f:Nat->Int)(c:Int)(l:List Int)(i:Int)(K:Ex->St->Prop):aF ckE (cM ckR 6) ckF [1,0] 0 K (ckS grA 25 n f c l i)=
 (Br (decide (i<(↑n:Int))) (Br (decide (0<=i)&&(decide (i<=(↑n:Int))&&decide ((↑n:Int)<=(↑n:Int)))) (Br (decide (0<=i)&&(decide (i<=IntKind.i64.wrap (i+if (↑((↑n:Int).toNat - i.toNat):Int)<c then (↑((↑n:Int).toNat - i.toNat):Int) else c))&&(decide (IntKind.i64.wrap (i+if (↑((↑n:Int).toNat - i.toNat):Int)<c then (↑((↑n:Int).toNat - i.toNat):Int) else c)<=IntKind.i64.wrap (i+if (↑((↑n:Int).toNat - i.toNat):Int)<c then (↑((↑n:Int).toNat - i.toNat):Int) else c))&&decide (IntKind.i64.wrap (i+if (↑((↑n:Int).toNat - i.toNat):Int)<c then (↑((↑n:Int).toNat - i.toNat):Int) else c)<=(↑n:Int))))) (∃(e397:Nat->Int),((fun (i_1:Nat)=>aP f (i_1+i.toNat))=aP e397/\(IntKind.i64.wrap (i+if (↑((↑n:Int).toNat - i.toNat):Int)<c then (↑((↑n:Int).toNat - i.toNat):Int) else c)).toNat - i.toNat<=1048576)/\(∃(e395:List Int),∃(e394:List (List Int)),∃(e393:List Int),(((⟨#[104,101,105,103,104,116,115]⟩:ByteArray)=bytesOf e395/\(IntKind.i64.wrap (i+if (↑((↑n:Int).toNat - i.toNat):Int)<c then (↑((↑n:Int).toNat - i.toNat):Int) else c)).toNat - i.toNat=e394.length/\cU (aG ((fun (f:Nat->Int) (n:Nat)=>dX f 0 n) e397 ((IntKind.i64.wrap (i+bif false then if (↑((↑n:Int).toNat - i.toNat):Int)>c then (↑((↑n:Int).toNat - i.toNat):Int) else c else if (↑((↑n:Int).toNat - i.toNat):Int)<c then (↑((↑n:Int).toNat - i.toNat):Int) else c)).toNat - i.toNat))) e394)/\bO e395 e394/\l.length=e393.length/\l.length=e393.length/\tG l=tG e393/\e393.length<=1073741824)/\(∀(l391:List Int),∀(_:lZ l391 e393 e395 e394),K Ex.normal {tmps:=[(0,SV.yld 0),(1,SV.ptr 4 0),(2,SV.ptr 5 0),(4,SV.int .i64 (IntKind.i64.wrap (i+c)))],store:=[(0,some (grA)),(1,some (SB.cells 51 [SV.ptr 2 0])),(2,some (SB.cells 49 [SV.ptr 2 0,SV.own 6 0 1 l391.length])),(4,some (SB.cells 25 [SV.ro n 1 (aP f)])),(5,some (SB.cells 3 [SV.int .i64 c])),(6,some (SB.row 5 1 l391.length (tG l391)))],nxt:=7,dirty:=[0,1,2,3,4,5,6,7,8,9,10],nt:=31}))) (False)) (False)) (K (Ex.exit 0) {tmps:=[(0,SV.yld 0),(1,SV.ptr 4 0),(2,SV.ptr 5 0),(4,SV.int .i64 i)],store:=[(0,some (grA)),(1,some (SB.cells 51 [SV.ptr 2 0])),(2,some (SB.cells 49 [SV.ptr 2 0,SV.own 6 0 1 l.length])),(4,some (SB.cells 25 [SV.ro n 1 (aP f)])),(5,some (SB.cells 3 [SV.int .i64 c])),(6,some (SB.row 5 1 l.length (tG l)))],nxt:=7,dirty:=[0,1,2,3,4,5,6,7,8,9,10],nt:=31})):=by kernel_rfl
theorem O1(n:Nat)(f:Nat->Int)(c:Int)(l:List Int)(i:Int)(K:Ex->St->Prop):aF ckE (cM ckR 6) ciF [1,0] 0 K (ckS grB 26 n f c l i)=
 (Br (decide (i<(↑n:Int))) (Br (decide (0<=i)&&(decide (i<=(↑n:Int))&&decide ((↑n:Int)<=(↑n:Int)))) (Br (decide (0<=i)&&(decide (i<=IntKind.i64.wrap (i+if (↑((↑n:Int).toNat - i.toNat):Int)<c then (↑((↑n:Int).toNat - i.toNat):Int) else c))&&(decide (IntKind.i64.wrap (i+if (↑((↑n:Int).toNat - i.toNat):Int)<c then (↑((↑n:Int).toNat - i.toNat):Int) else c)<=IntKind.i64.wrap (i+if (↑((↑n:Int).toNat - i.toNat):Int)<c then (↑((↑n:Int).toNat - i.toNat):Int) else c))&&decide (IntKind.i64.wrap (i+if (↑((↑n:Int).toNat - i.toNat):Int)<c then (↑((↑n:Int).toNat - i.toNat):Int) else c)<=(↑n:Int))))) (∃(e397:Nat->Int),((fun (i_1:Nat)=>aP f (i_1+i.toNat))=aP e397/\(IntKind.i64.wrap (i+if (↑((↑n:Int).toNat - i.toNat):Int)<c then (↑((↑n:Int).toNat - i.toNat):Int) else c)).toNat - i.toNat<=1048576)/\(∃(e395:List Int),∃(e394:List (List Int)),∃(e393:List Int),(((⟨#[103,114,111,117,110,100]⟩:ByteArray)=bytesOf e395/\(IntKind.i64.wrap (i+if (↑((↑n:Int).toNat - i.toNat):Int)<c then (↑((↑n:Int).toNat - i.toNat):Int) else c)).toNat - i.toNat=e394.length/\cU (aG ((fun (f:Nat->Int) (n:Nat)=>eZ f 0 n) e397 ((IntKind.i64.wrap (i+bif false then if (↑((↑n:Int).toNat - i.toNat):Int)>c then (↑((↑n:Int).toNat - i.toNat):Int) else c else if (↑((↑n:Int).toNat - i.toNat):Int)<c then (↑((↑n:Int).toNat - i.toNat):Int) else c)).toNat - i.toNat))) e394)/\bO e395 e394/\l.length=e393.length/\l.length=e393.length/\tG l=tG e393/\e393.length<=1073741824)/\(∀(l391:List Int),∀(_:lZ l391 e393 e395 e394),K Ex.normal {tmps:=[(0,SV.yld 0),(1,SV.ptr 4 0),(2,SV.ptr 5 0),(4,SV.int .i64 (IntKind.i64.wrap (i+c)))],store:=[(0,some (grB)),(1,some (SB.cells 51 [SV.ptr 2 0])),(2,some (SB.cells 49 [SV.ptr 2 0,SV.own 6 0 1 l391.length])),(4,some (SB.cells 26 [SV.ro n 1 (aP f)])),(5,some (SB.cells 3 [SV.int .i64 c])),(6,some (SB.row 5 1 l391.length (tG l391)))],nxt:=7,dirty:=[0,1,2,3,4,5,6,7,8,9,10],nt:=31}))) (False)) (False)) (K (Ex.exit 0) {tmps:=[(0,SV.yld 0),(1,SV.ptr 4 0),(2,SV.ptr 5 0),(4,SV.int .i64 i)],store:=[(0,some (grB)),(1,some (SB.cells 51 [SV.ptr 2 0])),(2,some (SB.cells 49 [SV.ptr 2 0,SV.own 6 0 1 l.length])),(4,some (SB.cells 26 [SV.ro n 1 (aP f)])),(5,some (SB.cells 3 [SV.int .i64 c])),(6,some (SB.row 5 1 l.length (tG l)))],nxt:=7,dirty:=[0,1,2,3,4,5,6,7,8,9,10],nt:=31})):=by kernel_rfl
theorem aE1(n:Nat)(f:Nat->Int)(c:Int)(l:List Int)(i:Int)(K:KC):aB ckE (cM ckR 6) ckF [1,0] 6 K (.exit 0) (ckS grA 25 n f c l i)=
 (K (SV.tup []) [some (grA),some (SB.cells 51 [SV.ptr 2 0]),some (SB.cells 49 [SV.ptr 2 0,SV.own 6 0 1 l.length]),none,some (SB.cells 25 [SV.ro n 1 (aP f)]),some (SB.cells 3 [SV.int .i64 c]),some (SB.row 5 1 l.length (tG l))] [0,1,2,3,4,5]):=by kernel_rfl
theorem aEv(n:Nat)(f:Nat->Int)(c:Int)(l:List Int)(i:Int)(K:KC):aB ckE (cM ckR 6) ciF [1,0] 6 K (.exit 0) (ckS grB 26 n f c l i)=
 (K (SV.tup []) [some (grB),some (SB.cells 51 [SV.ptr 2 0]),some (SB.cells 49 [SV.ptr 2 0,SV.own 6 0 1 l.length]),none,some (SB.cells 26 [SV.ro n 1 (aP f)]),some (SB.cells 3 [SV.int .i64 c]),some (SB.row 5 1 l.length (tG l))] [0,1,2,3,4,5]):=by kernel_rfl
theorem aIV (m k:Nat) (f:Nat->Int) (l0:List Int) (hm:1<=m/\m<=65) (hk:k<=65) (hl:l0.length<=100000000) (K:KC)
  (hK: ∀l:List Int,l=l0++bL (zY f m) 0 k->K (.tup []) [some grA,some (.cells pgT [.ptr 2 0]),some (.cells sbT [.ptr 2 0,.own 6 0 1 l.length]),none,some (.cells 25 [.ro (k*m) 1 (aP f)]),some (.cells 3 [.int .i64 m]),some (.row 5 1 l.length (tG l))] [0,1,2,3,4,5]):
  EM ckR (fun _=>0) n4 4 103 [.yld 0,.ptr 4 0,.ptr 5 0] [some grA,some (.cells pgT [.ptr 2 0]),some (.cells sbT [.ptr 2 0,.own 3 0 1 l0.length]),some (.row 5 1 l0.length (tG l0)),some (.cells 25 [.ro (k*m) 1 (aP f)]),some (.cells 3 [.int .i64 m])] K:=by
 have hkm:k*m<=65*65:=Nat.mul_le_mul hk hm.2
 rw [aDe]
 refine ⟨k+1, ?_⟩
 show iter (aF ckE (cM ckR 6) ckF [1,0] 0) (aB ckE (cM ckR 6) ckF [1,0] 6 K) (k+1) (ckS grA 25 (k*m) f m l0 ((0:Nat):Int))
 have key:=iH (env:=ckE) (W:=cM ckR 6) (fn:=ckF) (path:=[1,0]) (blk:=0) (KK:=aB ckE (cM ckR 6) ckF [1,0] 6 K) (fun a:Nat×List Int=>ckS grA 25 (k*m) f m a.2 ((a.1*m:Nat):Int)) (fun a=>k - a.1) (fun a=>a.1<=k/\a.2=l0++bL (zY f m) 0 a.1) ?_ (k+1) (0,l0) ⟨cn _,by show l0=l0++[];rw [cm]⟩ (by show k - 0<k+1;omega)
 ·rw [show 0*m=0 from ce m] at key
  exact key
 rintro ⟨j,l⟩ ⟨h1,h2⟩ X hX
 simp only at h1 h2 hX|-
 by_cases hj:j<k
 ·have hle:(j+1)*m<=k*m:=bj m hj
  rw [bp,cj] at hle
  have hnext:=hX (j+1,l++zY f m j) ⟨hj,by rw [h2,bo,lU,bi]⟩ (by show k - (j+1)<k - j;omega)
  simp only [bp,cj] at hnext
  have hll:l.length<=100325000:=by
   rw [h2,au]
   have:=kO (f:=zY f m) (B:=5000) (fun i=>FF (f:=f) (r:=i) hm.2) j 0
   omega
  have hH:zY f m j=lnW gR (dX f (j*m) m):=rfl
  rw [hH] at hnext
  generalize j*m=a at*
  generalize k*m=n at*
  have e:(if (((n - a:Nat):Nat):Int)<(m:Int) then (((n - a:Nat):Nat):Int) else (m:Int))=(m:Int):=if_neg (by omega)
  have hw:IntKind.i64.wrap ((a:Int)+(m:Int))=((a+m:Nat):Int):=by rw [fK];omega
  rw [QR]
  simp only [am,ap,e,hw,fo]
  refine Br.of (fun _=>Br.of (fun _=>Br.of (fun _=>⟨fun i=>f (i+a),⟨rfl,by omega⟩,gR,dX f a m,l,⟨⟨rfl,(gP f a m).symm, ?_⟩,bP (bD rfl) (vV f a m) (by rw [gP];omega) (by rw [gP];omega),rfl,rfl,rfl,by omega⟩,fun l' hg=> ?_⟩) fun c=>absurd c (by simp;omega)) fun c=>absurd c (by simp;omega)) fun c=>iI (by omega) c
  ·rw [JV];exact dR _
  ·unfold lZ at hg
   rw [hg];exact hnext
 ·obtain rfl:j=k:=by omega
  rw [QR]
  refine Br.of (fun c=>g7 c) fun _=> ?_
  show aB ckE (cM ckR 6) ckF [1,0] 6 K (.exit 0) (ckS grA 25 (j*m) f m l ((j*m:Nat):Int))
  rw [aE1];exact hK l h2
theorem aI6 (m k:Nat) (f:Nat->Int) (l0:List Int) (hm:1<=m/\m<=65) (hk:k<=65) (hl:l0.length<=100000000) (K:KC)
  (hK: ∀l:List Int,l=l0++bL (x7 f m) 0 k->K (.tup []) [some grB,some (.cells pgT [.ptr 2 0]),some (.cells sbT [.ptr 2 0,.own 6 0 1 l.length]),none,some (.cells 26 [.ro (k*m) 1 (aP f)]),some (.cells 3 [.int .i64 m]),some (.row 5 1 l.length (tG l))] [0,1,2,3,4,5]):
  EM ckR (fun _=>0) n4 4 104 [.yld 0,.ptr 4 0,.ptr 5 0] [some grB,some (.cells pgT [.ptr 2 0]),some (.cells sbT [.ptr 2 0,.own 3 0 1 l0.length]),some (.row 5 1 l0.length (tG l0)),some (.cells 26 [.ro (k*m) 1 (aP f)]),some (.cells 3 [.int .i64 m])] K:=by
 have hkm:k*m<=65*65:=Nat.mul_le_mul hk hm.2
 rw [aBx]
 refine ⟨k+1, ?_⟩
 show iter (aF ckE (cM ckR 6) ciF [1,0] 0) (aB ckE (cM ckR 6) ciF [1,0] 6 K) (k+1) (ckS grB 26 (k*m) f m l0 ((0:Nat):Int))
 have key:=iH (env:=ckE) (W:=cM ckR 6) (fn:=ciF) (path:=[1,0]) (blk:=0) (KK:=aB ckE (cM ckR 6) ciF [1,0] 6 K) (fun a:Nat×List Int=>ckS grB 26 (k*m) f m a.2 ((a.1*m:Nat):Int)) (fun a=>k - a.1) (fun a=>a.1<=k/\a.2=l0++bL (x7 f m) 0 a.1) ?_ (k+1) (0,l0) ⟨cn _,by show l0=l0++[];rw [cm]⟩ (by show k - 0<k+1;omega)
 ·rw [show 0*m=0 from ce m] at key
  exact key
 rintro ⟨j,l⟩ ⟨h1,h2⟩ X hX
 simp only at h1 h2 hX|-
 by_cases hj:j<k
 ·have hle:(j+1)*m<=k*m:=bj m hj
  rw [bp,cj] at hle
  have hnext:=hX (j+1,l++x7 f m j) ⟨hj,by rw [h2,bo,lU,bi]⟩ (by show k - (j+1)<k - j;omega)
  simp only [bp,cj] at hnext
  have hll:l.length<=100325000:=by
   rw [h2,au]
   have:=kO (f:=x7 f m) (B:=5000) (fun i=>GX (f:=f) (r:=i) hm.2) j 0
   omega
  have hH:x7 f m j=lnW iO (eZ f (j*m) m):=rfl
  rw [hH] at hnext
  generalize j*m=a at*
  generalize k*m=n at*
  have e:(if (((n - a:Nat):Nat):Int)<(m:Int) then (((n - a:Nat):Nat):Int) else (m:Int))=(m:Int):=if_neg (by omega)
  have hw:IntKind.i64.wrap ((a:Int)+(m:Int))=((a+m:Nat):Int):=by rw [fK];omega
  rw [O1]
  simp only [am,ap,e,hw,fo]
  refine Br.of (fun _=>Br.of (fun _=>Br.of (fun _=>⟨fun i=>f (i+a),⟨rfl,by omega⟩,iO,eZ f a m,l,⟨⟨rfl,(gQ f a m).symm, ?_⟩,bP (bD rfl) (vX f a m) (by rw [gQ];omega) (by rw [gQ];omega),rfl,rfl,rfl,by omega⟩,fun l' hg=> ?_⟩) fun c=>absurd c (by simp;omega)) fun c=>absurd c (by simp;omega)) fun c=>iI (by omega) c
  ·rw [HU];exact dR _
  ·unfold lZ at hg
   rw [hg];exact hnext
 ·obtain rfl:j=k:=by omega
  rw [O1]
  refine Br.of (fun c=>g7 c) fun _=> ?_
  show aB ckE (cM ckR 6) ciF [1,0] 6 K (.exit 0) (ckS grB 26 (j*m) f m l ((j*m:Nat):Int))
  rw [aEv];exact hK l h2
def cCh(r:SB)(T:TypeId)(H:(Nat->Int)->Nat->Nat->List Int):List SV->List (Option SB)->KC->Prop
 | [.yld 0,.ptr 4 0,.ptr 5 0],[some r',some (.cells 51 [.ptr 2 0]),some (.cells 49 [.ptr 2 0,.own 3 0 1 a]),some (.row 5 1 a' h),some (.cells t [.ro n 1 g]),some (.cells 3 [.int .i64 c])],K=>
  ∃(m k:Nat) (f:Nat->Int) (l0:List Int),((r'=r/\t=T/\a=l0.length/\a'=l0.length/\h=tG l0/\g=aP f/\c=m/\n=k*m)/\(1<=m/\m<=65)/\k<=65/\l0.length<=100000000)/\
   ∀l:List Int,gZ l l0 (bL (H f m) 0 k)->K (.tup []) [some r,some (.cells 51 [.ptr 2 0]),some (.cells 49 [.ptr 2 0,.own 6 0 1 l.length]),none,some (.cells T [.ro n 1 g]),some (.cells 3 [.int .i64 m]),some (.row 5 1 l.length (tG l))] [0,1,2,3,4,5]
 |_,_,_=>False
theorem aJD(xs:List SV)(σ:List (Option SB)):Sat Tryz.prog 103 xs σ (cCh grA 25 zY xs σ):=by
 intro K hK
 unfold cCh at hK
 split at hK
 case h_2=>exact hK.elim
 obtain ⟨m,k,f,l0,⟨⟨rfl,rfl,rfl,rfl,rfl,rfl,rfl,rfl⟩,h1,h2,h3⟩,hK⟩:=hK
 refine ⟨_,_,_,hK _ rfl,C3 ckR (fun _=>0) n4 4 (fun p h=> ?_) fun _ _ K hK=>aIV m k f l0 h1 h2 h3 K fun l hl=> ?_⟩
 ·show p<6
  simp only [cb,cq,fy] at h
  omega
 ·rw [hl];exact hK _ fun _ h=>h
theorem aLo(xs:List SV)(σ:List (Option SB)):Sat Tryz.prog 104 xs σ (cCh grB 26 x7 xs σ):=by
 intro K hK
 unfold cCh at hK
 split at hK
 case h_2=>exact hK.elim
 obtain ⟨m,k,f,l0,⟨⟨rfl,rfl,rfl,rfl,rfl,rfl,rfl,rfl⟩,h1,h2,h3⟩,hK⟩:=hK
 refine ⟨_,_,_,hK _ rfl,C3 ckR (fun _=>0) n4 4 (fun p h=> ?_) fun _ _ K hK=>aI6 m k f l0 h1 h2 h3 K fun l hl=> ?_⟩
 ·show p<6
  simp only [cb,cq,fy] at h
  omega
 ·rw [hl];exact hK _ fun _ h=>h
noncomputable def n5 :bT Tryz.prog:=((n4).add 103 (cCh grA 25 zY) aJD).add 104 (cCh grB 26 x7) aLo
def gnR :List (Nat×eI×List ((Nat×List Nat)×Nat)):=[(4,⟨[2,57,58,59],[0,1,3],[0,1,2,3,4,5,6,7,8,9,10,11,12,13,14,15,16,17,18,19,20,21,22,23,24,25,26,27,28,29,30],4,[]⟩,[((2,[0,1]),3)])]
noncomputable abbrev gnE :Env:=aFD gnR (fun _=>0) n5 3
abbrev gnP :List Nat:=[1,1,1,1,1,1,1,1,0]
theorem aCs(t:Trk)(K:KC):EM gnR (fun _=>0) n5 4 16 [.agg [.ptr 0 0],.agg (aI t)] [some (.cells sbT [.nilp,.nils])] K=
 (∃(e400:List Int),∃(e399:List (List Int)),(((⟨#[114,97,116,101]⟩:ByteArray)=bytesOf e400/\1=e399.length/\1=1/\cU (aG [aH t.rate]) e399)/\bO e400 e399)/\(∀(l397:List Int),∀(_:lZ l397 [] e400 e399),∃(e395:List Int),∃(e394:List (List Int)),∃(e393:List Int),(((⟨#[99,101,108,108]⟩:ByteArray)=bytesOf e395/\1=e394.length/\1=1/\cU (aG [aC t.cell]) e394)/\bO e395 e394/\l397.length=e393.length/\l397.length=e393.length/\tG l397=tG e393/\e393.length<=1073741824)/\(∀(l391:List Int),∀(_:lZ l391 e393 e395 e394),∃(e389:List Int),∃(e388:List (List Int)),∃(e387:List Int),(((⟨#[115,105,122,101]⟩:ByteArray)=bytesOf e389/\2=e388.length/\2=2/\cU (aG [aH t.cols,aH t.rows]) e388)/\bO e389 e388/\l391.length=e387.length/\l391.length=e387.length/\tG l391=tG e387/\e387.length<=1073741824)/\(∀(l385:List Int),∀(_:lZ l385 e387 e389 e388),∃(e383:List Int),∃(e382:List (List Int)),∃(e381:List Int),(((⟨#[99,111,114,110,101,114]⟩:ByteArray)=bytesOf e383/\2=e382.length/\2=2/\cU (aG [aC t.cx,aC t.cy]) e382)/\bO e383 e382/\l385.length=e381.length/\l385.length=e381.length/\tG l385=tG e381/\e381.length<=1073741824)/\(∀(l379:List Int),∀(_:lZ l379 e381 e383 e382),Br (decide (IntKind.i64.wrap (t.cols+1)<1)) (False) (∃(e376:Nat),∃(e375:Nat),∃(e374:Nat->Int),∃(e373:List Int),((grA=grA/\25=25/\l379.length=e373.length/\l379.length=e373.length/\tG l379=tG e373/\aP t.h=aP e374/\IntKind.i64.wrap (t.cols+1)=(↑e376:Int)/\t.nh=e375*e376)/\(1<=e376/\e376<=65)/\e375<=65/\e373.length<=100000000)/\(∀(l371:List Int),∀(_:gZ l371 e373 (bL (zY e374 e376) 0 e375)),Br (decide (t.cols<1)) (False) (∃(e368:Nat),∃(e367:Nat),∃(e366:Nat->Int),∃(e365:List Int),((grB=grB/\26=26/\l371.length=e365.length/\l371.length=e365.length/\tG l371=tG e365/\aP t.g=aP e366/\t.cols=(↑e368:Int)/\t.ng=e367*e368)/\(1<=e368/\e368<=65)/\e367<=65/\e365.length<=100000000)/\(∀(l363:List Int),∀(_:gZ l363 e365 (bL (x7 e366 e368) 0 e367)),∃q_,aV gnE (cM gnR 1) gdF gnP 4 1 K q_ {tmps:=[(2,SV.ptr 1 0),(57,SV.ro t.nk 3 (fH t)),(58,SV.int .i64 (↑t.nk:Int)),(59,SV.int .i64 0)],store:=[(0,some (SB.cells 49 [SV.ptr 0 0,SV.own 3 0 1 l363.length])),(1,some (SB.cells 51 [SV.ptr 0 0])),(3,some (SB.row 5 1 l363.length (tG l363)))],nxt:=4,dirty:=[0,1,2,3,4,5,6,7,8,9,10,11,12,13,14,15,16,17,18,19,20,21,22,23,24,25,26,27,28,29,30],nt:=77}))))))))):=by kernel_rfl
def gnS(t:Trk)(l:List Int)(i:Int):St:=⟨[(2,.ptr 1 0),(57,.ro t.nk 3 (fH t)),(58,.int .i64 t.nk),(59,.int .i64 i)],[(0,some (.cells sbT [.ptr 0 0,.own 3 0 1 l.length])),(1,some (.cells pgT [.ptr 0 0])),(3,some (.row 5 1 l.length (tG l)))],4,[0,1,2,3,4,5,6,7,8,9,10,11,12,13,14,15,16,17,18,19,20,21,22,23,24,25,26,27,28,29,30],77⟩
theorem OI(t:Trk)(l:List Int)(i:Nat)(K:Ex->St->Prop):aF gnE (cM gnR 1) gdF gnP 4 K (gnS t l i)=
 (Br (decide ((↑i:Int)<(↑t.nk:Int))) (Br (decide (0<=(↑i:Int))&&decide ((↑i:Int)<(↑t.nk:Int))) (Br (t.ko (↑i:Int).toNat) (∃(e397:List Int),∃(e396:List (List Int)),∃(e395:List Int),(((⟨#[107,105,110,100]⟩:ByteArray)=bytesOf e397/\3=e396.length/\3=3/\cU (bK 2 [SV.str (⟨#[111,102,102]⟩:ByteArray)] (aG [aC (t.kg (↑i:Int).toNat),aC (t.kd (↑i:Int).toNat)])) e396)/\bO e397 e396/\l.length=e395.length/\l.length=e395.length/\tG l=tG e395/\e395.length<=1073741824)/\(∀(l393:List Int),∀(_:lZ l393 e395 e397 e396),K Ex.normal {tmps:=[(2,SV.ptr 1 0),(57,SV.ro t.nk 3 (fH t)),(58,SV.int .i64 (↑t.nk:Int)),(59,SV.int .i64 (IntKind.i64.wrap ((↑i:Int)+1)))],store:=[(0,some (SB.cells 49 [SV.ptr 0 0,SV.own 3 0 1 l393.length])),(1,some (SB.cells 51 [SV.ptr 0 0])),(3,some (SB.row 5 1 l393.length (tG l393)))],nxt:=4,dirty:=[0,1,2,3,4,5,6,7,8,9,10,11,12,13,14,15,16,17,18,19,20,21,22,23,24,25,26,27,28,29,30],nt:=77})) (∃(e397:List Int),∃(e396:List (List Int)),∃(e395:List Int),(((⟨#[107,105,110,100]⟩:ByteArray)=bytesOf e397/\3=e396.length/\3=3/\cU (bK 2 [SV.str (⟨#[111,110]⟩:ByteArray)] (aG [aC (t.kg (↑i:Int).toNat),aC (t.kd (↑i:Int).toNat)])) e396)/\bO e397 e396/\l.length=e395.length/\l.length=e395.length/\tG l=tG e395/\e395.length<=1073741824)/\(∀(l393:List Int),∀(_:lZ l393 e395 e397 e396),K Ex.normal {tmps:=[(2,SV.ptr 1 0),(57,SV.ro t.nk 3 (fH t)),(58,SV.int .i64 (↑t.nk:Int)),(59,SV.int .i64 (IntKind.i64.wrap ((↑i:Int)+1)))],store:=[(0,some (SB.cells 49 [SV.ptr 0 0,SV.own 3 0 1 l393.length])),(1,some (SB.cells 51 [SV.ptr 0 0])),(3,some (SB.row 5 1 l393.length (tG l393)))],nxt:=4,dirty:=[0,1,2,3,4,5,6,7,8,9,10,11,12,13,14,15,16,17,18,19,20,21,22,23,24,25,26,27,28,29,30],nt:=77}))) (False)) (K (Ex.exit 4) {tmps:=[(2,SV.ptr 1 0),(57,SV.ro t.nk 3 (fH t)),(58,SV.int .i64 (↑t.nk:Int)),(59,SV.int .i64 (↑i:Int))],store:=[(0,some (SB.cells 49 [SV.ptr 0 0,SV.own 3 0 1 l.length])),(1,some (SB.cells 51 [SV.ptr 0 0])),(3,some (SB.row 5 1 l.length (tG l)))],nxt:=4,dirty:=[0,1,2,3,4,5,6,7,8,9,10,11,12,13,14,15,16,17,18,19,20,21,22,23,24,25,26,27,28,29,30],nt:=77})):=by kernel_rfl
theorem aBU(t:Trk)(l:List Int)(i:Nat)(K:KC):aB gnE (cM gnR 1) gdF gnP 1 K (.exit 4) (gnS t l i)=
 (K (SV.tup []) [some (SB.cells 49 [SV.ptr 0 0,SV.own 1 0 1 l.length]),some (SB.row 5 1 l.length (tG l))] [0]):=by kernel_rfl
theorem aGO (t:Trk) (b0:List Int) (hk:t.nk<=8) (hb:b0.length<=1000000) (K:KC)
  (hK: ∀l:List Int,gZ l b0 (bL (vW t) 0 t.nk)->K (.tup []) [some (.cells sbT [.ptr 0 0,.own 1 0 1 l.length]),some (.row 5 1 l.length (tG l))] [0]):
  aV gnE (cM gnR 1) gdF gnP 4 1 K (t.nk+1) (gnS t b0 ((0:Nat):Int)):=by
 show iter (aF gnE (cM gnR 1) gdF gnP 4) (aB gnE (cM gnR 1) gdF gnP 1 K) (t.nk+1) (gnS t b0 ((0:Nat):Int))
 refine iH (fun a:Nat×List Int=>gnS t a.2 (a.1:Int)) (fun a=>t.nk - a.1) (fun a=>(a.1<=t.nk/\a.2=b0++bL (vW t) 0 a.1)/\a.2.length<=1000000+200*a.1) ?_ (t.nk+1) (0,b0) ⟨⟨cn _,by show b0=b0++[];rw [cm]⟩,hb⟩ (by show t.nk - 0<t.nk+1;omega)
 rintro ⟨i,l⟩ ⟨⟨h1,h2⟩,h3⟩ X hX
 simp only at h1 h2 h3 hX|-
 by_cases hi:i<t.nk
 ·have hok:cW [aC (t.kg i),aC (t.kd i),onW (t.ko i)]:=aJ (eB _) (aJ (eB _) (aJ (RG _) cN))
  have hnext: ∀l':List Int,lZ l' l iK [aC (t.kg i),aC (t.kd i),onW (t.ko i)]->X (gnS t l' ((i+1:Nat):Int)):=fun l' hg=>by
   have hl:=nZ hg hok
   rw [show iK.length=4 from rfl] at hl
   simp only [az,bw] at hl
   refine hX (i+1,l') ⟨⟨hi, ?_⟩,by show l'.length<=1000000+200*(i+1);omega⟩ (by show t.nk - (i+1)<t.nk - i;omega)
   unfold lZ at hg
   rw [hg,h2,bo,lU,bi];rfl
  rw [OI,aK hi (by omega),am]
  refine Br.of (fun _=>Br.of (fun _=>Br.of (fun c=> ?_) fun c=> ?_) fun c=>eA hi c) fun c=>iI hi c
  ·rw [c] at hok hnext
   exact ⟨iK,[aC (t.kg i),aC (t.kd i),onW true],l,⟨⟨rfl,rfl,rfl,aA4 (c:=onW true)⟩,bP (bD rfl) hok (de _) (by simp),rfl,rfl,rfl,by omega⟩,fun l' hg=>hnext l' hg⟩
  ·rw [c] at hok hnext
   exact ⟨iK,[aC (t.kg i),aC (t.kd i),onW false],l,⟨⟨rfl,rfl,rfl,aA4 (c:=onW false)⟩,bP (bD rfl) hok (de _) (by simp),rfl,rfl,rfl,by omega⟩,fun l' hg=>hnext l' hg⟩
 ·obtain rfl:i=t.nk:=by omega
  rw [OI]
  refine Br.of (fun c=>g7 c) fun _=> ?_
  show aB gnE (cM gnR 1) gdF gnP 1 K (.exit 4) (gnS t l (t.nk:Nat))
  rw [aBU];exact hK l h2
theorem aJs (t:Trk) (h:G7 t) (K:KC)
  (hK: ∀l:List Int,gZ l [] (mU t)->K (.tup []) [some (.cells sbT [.ptr 0 0,.own 1 0 1 l.length]),some (.row 5 1 l.length (tG l))] [0]):
  EM gnR (fun _=>0) n5 4 16 [.agg [.ptr 0 0],.agg (aI t)] [some (.cells sbT [.nilp,.nils])] K:=by
 obtain ⟨⟨a1,a2⟩,⟨a3,a4⟩,a5,a6,a7⟩:=h
 have w1:IntKind.i64.wrap (t.cols+1)=t.cols+1:=by rw [fK];omega
 have k1:cW [aH t.rate]:=aJ (sI _) cN
 have k2:cW [aC t.cell]:=aJ (eB _) cN
 have k3:cW [aH t.cols,aH t.rows]:=aJ (sI _) (aJ (sI _) cN)
 have k4:cW [aC t.cx,aC t.cy]:=aJ (eB _) (aJ (eB _) cN)
 rw [aCs]
 refine ⟨oE,_,⟨⟨rfl,rfl,rfl,dR _⟩,bP (bD rfl) k1 (de _) (by simp)⟩,fun l1 g1=> ?_⟩
 have e1:=nZ g1 k1
 rw [show oE.length=4 from rfl] at e1
 simp only [az,bw] at e1
 refine ⟨n9,_,l1,⟨⟨rfl,rfl,rfl,dR _⟩,bP (bD rfl) k2 (de _) (by simp),rfl,rfl,rfl,by omega⟩,fun l2 g2=> ?_⟩
 have e2:=nZ g2 k2
 rw [show n9.length=4 from rfl] at e2
 simp only [az,bw] at e2
 refine ⟨lT,_,l2,⟨⟨rfl,rfl,rfl,dR _⟩,bP (bD rfl) k3 (de _) (by simp),rfl,rfl,rfl,by omega⟩,fun l3 g3=> ?_⟩
 have e3:=nZ g3 k3
 rw [show lT.length=4 from rfl] at e3
 simp only [az,bw] at e3
 refine ⟨iG,_,l3,⟨⟨rfl,rfl,rfl,dR _⟩,bP (bD rfl) k4 (de _) (by simp),rfl,rfl,rfl,by omega⟩,fun l4 g4=> ?_⟩
 have e4:=nZ g4 k4
 rw [show iG.length=6 from rfl] at e4
 simp only [az,bw] at e4
 rw [w1]
 refine Br.of (fun c=>absurd (aa c) (by omega)) fun _=> ?_
 refine ⟨(t.cols+1).toNat,(t.rows+1).toNat,t.h,l4,⟨⟨rfl,rfl,rfl,rfl,rfl,rfl,by omega,a5⟩,by omega,by omega,by omega⟩,fun l5 g5=> ?_⟩
 have e5:l5.length<=l4.length+65*5000:=by
  unfold gZ at g5
  rw [g5,au]
  have:=kO (f:=zY t.h (t.cols+1).toNat) (B:=5000) (fun i=>FF (f:=t.h) (r:=i) (by omega)) (t.rows+1).toNat 0
  omega
 refine Br.of (fun c=>absurd (aa c) (by omega)) fun _=> ?_
 refine ⟨t.cols.toNat,t.rows.toNat,t.g,l5,⟨⟨rfl,rfl,rfl,rfl,rfl,rfl,by omega,a6⟩,by omega,by omega,by omega⟩,fun l6 g6=> ?_⟩
 have e6:l6.length<=l5.length+65*5000:=by
  unfold gZ at g6
  rw [g6,au]
  have:=kO (f:=x7 t.g t.cols.toNat) (B:=5000) (fun i=>GX (f:=t.g) (r:=i) (by omega)) t.rows.toNat 0
  omega
 refine ⟨t.nk+1,aGO t l6 a7 (by omega) K fun l g=>hK l ?_⟩
 unfold lZ at g1 g2 g3 g4
 unfold gZ at g5 g6 g|-
 rw [g,g6,g5,g4,g3,g2,g1]
 rfl
def cGn :List SV->List (Option SB)->KC->Prop
 | [.agg [.ptr 0 0],.agg cs],[some (.cells 49 [.nilp,.nils])],K=> ∃t:Trk,(cs=aI t/\G7 t)/\ ∀l:List Int,gZ l [] (mU t)->K (.tup []) [some (.cells 49 [.ptr 0 0,.own 1 0 1 l.length]),some (.row 5 1 l.length (tG l))] [0]
 |_,_,_=>False
theorem aKE(xs:List SV)(σ:List (Option SB)):Sat Tryz.prog 16 xs σ (cGn xs σ):=by
 intro K hK
 unfold cGn at hK
 split at hK
 case h_2=>exact hK.elim
 obtain ⟨t,⟨rfl,h⟩,hK⟩:=hK
 refine ⟨_,_,_,hK _ rfl,C3 gnR (fun _=>0) n5 4 (fun p h=> ?_) fun _ _ K hK=>aJs t h K fun l hl=> ?_⟩
 ·show p<1
  simp only [cb,cq,fy] at h
  omega
 ·rw [hl];exact hK _ fun _ h=>h
noncomputable def n6 :bT Tryz.prog:=(n5).add 16 cGn aKE
theorem QK(a b:Int)(K:KC):run k8 2 186 [.agg [.int .i64 a,.int .u64 b]] [] K=
  Br (a==0&&b==0) (K (.int .i64 0) [] []) (K (.int .i64 (IntKind.i64.wrap ((BitVec.ofInt IntKind.i64.bits (gB a 0)|||BitVec.ofInt IntKind.i64.bits 1).toNat:Nat))) [] []):=by kernel_rfl
theorem jD(a b:Int):aE Tryz.prog 186 [.agg [.int .i64 a,.int .u64 b]] [] (.int .i64 (gB (wv a b) 0)) [] []:=
 aS k8 2 fun ⟨⟨_,hb,_⟩,_⟩ _ K hK=>by
  have hb':0<=b/\b<=18446744073709551615:=hb
  rw [QK]
  unfold gB at hK|-
  refine Br.of (fun c=> ?_) fun c=> ?_
  ·simp only [af,ci] at c
   obtain ⟨rfl,rfl⟩:=c
   exact hK
  ·simp only [bf,ck] at c
   cases h:decide (a<0)
   ·have h':=ae h
    rw [aj (show¬wv a b<0 by unfold wv;omega),ao (show 0<wv a b by unfold wv;omega)] at hK
    cases h2:decide (0<a)<;>exact hK
   ·have h':=aa h
    rw [ao (show wv a b<0 by unfold wv;omega)] at hK
    exact fin hK (by kernel_rfl)
def aD4 :List SV->List (Option SB)->Out
 | [.agg [.int .i64 a,.int .u64 b]],[]=>some (.int .i64 (gB (wv a b) 0),[],[])
 |_,_=>none
noncomputable def p1 :bT Tryz.prog:=((((k8).add 186 (one aD4) (aT fun xs σ v σ' d h=>by
  unfold aD4 at h;split at h<;>cases h;first|exact jD|exact jD _|exact jD _ _|exact jD _ _ _|exact jD _ _ _ _|exact jD _ _ _ _ _|exact jD _ _ _ _ _ _|exact jD _ _ _ _ _ _ _|exact jD _ _ _ _ _ _ _ _|exact jD _ _ _ _ _ _ _ _ _|exact jD _ _ _ _ _ _ _ _ _ _|exact jD _ _ _ _ _ _ _ _ _ _ _)).add 151 (one YC) (aT fun xs σ v σ' d h=>by
  unfold YC at h;split at h<;>cases h;first|exact dE|exact dE _|exact dE _ _|exact dE _ _ _|exact dE _ _ _ _|exact dE _ _ _ _ _|exact dE _ _ _ _ _ _|exact dE _ _ _ _ _ _ _|exact dE _ _ _ _ _ _ _ _|exact dE _ _ _ _ _ _ _ _ _|exact dE _ _ _ _ _ _ _ _ _ _|exact dE _ _ _ _ _ _ _ _ _ _ _)).add 169 (one X6) (aT fun xs σ v σ' d h=>by
  unfold X6 at h;split at h<;>cases h;first|exact dD|exact dD _|exact dD _ _|exact dD _ _ _|exact dD _ _ _ _|exact dD _ _ _ _ _|exact dD _ _ _ _ _ _|exact dD _ _ _ _ _ _ _|exact dD _ _ _ _ _ _ _ _|exact dD _ _ _ _ _ _ _ _ _|exact dD _ _ _ _ _ _ _ _ _ _|exact dD _ _ _ _ _ _ _ _ _ _ _)).add 171 (one ZZ) (aT fun xs σ v σ' d h=>by
  unfold ZZ at h;split at h<;>cases h;first|exact dC|exact dC _|exact dC _ _|exact dC _ _ _|exact dC _ _ _ _|exact dC _ _ _ _ _|exact dC _ _ _ _ _ _|exact dC _ _ _ _ _ _ _|exact dC _ _ _ _ _ _ _ _|exact dC _ _ _ _ _ _ _ _ _|exact dC _ _ _ _ _ _ _ _ _ _|exact dC _ _ _ _ _ _ _ _ _ _ _)
theorem jK(ax ay bx ey:Int):aE Tryz.prog 188 [.agg [.int .i64 ax,.int .i64 ay],.agg [.int .i64 bx,.int .i64 ey]] [] (.agg [.int .i64 (w64 (bx - ax)),.int .i64 (w64 (ey - ay))]) [] []:=
 aS p1 2 fun _ _ K hK=>by
  have e: ∀K,run p1 2 188 [.agg [.int .i64 ax,.int .i64 ay],.agg [.int .i64 bx,.int .i64 ey]] [] K=K (.agg [.int .i64 (w64 (bx - ax)),.int .i64 (w64 (ey - ay))]) [] []:=fun K=>by kernel_rfl
  rw [e];exact hK
theorem lF(ux uy vx vy:Int):aE Tryz.prog 190 [.agg [.int .i64 ux,.int .i64 uy],.agg [.int .i64 vx,.int .i64 vy]] [] (i3 (P0 ux uy vx vy)) [] []:=
 aS p1 2 fun _ _ K hK=>by
  have e: ∀K,run p1 2 190 [.agg [.int .i64 ux,.int .i64 uy],.agg [.int .i64 vx,.int .i64 vy]] [] K=K (i3 (P0 ux uy vx vy)) [] []:=fun K=>by kernel_rfl
  rw [e];exact hK
theorem iA(ux uy vx vy:Int):aE Tryz.prog 215 [.agg [.int .i64 ux,.int .i64 uy],.agg [.int .i64 vx,.int .i64 vy]] [] (i3 (BC ux uy vx vy)) [] []:=
 aS p1 3 fun _ _ K hK=>by
  have e: ∀K,run p1 3 215 [.agg [.int .i64 ux,.int .i64 uy],.agg [.int .i64 vx,.int .i64 vy]] [] K=K (i3 (BC ux uy vx vy)) [] []:=fun K=>by kernel_rfl
  rw [e];exact hK
def aFx :List SV->List (Option SB)->Out
 | [.agg [.int .i64 ax,.int .i64 ay],.agg [.int .i64 bx,.int .i64 ey]],[]=>some (.agg [.int .i64 (w64 (bx - ax)),.int .i64 (w64 (ey - ay))],[],[])
 |_,_=>none
def aHX :List SV->List (Option SB)->Out
 | [.agg [.int .i64 ux,.int .i64 uy],.agg [.int .i64 vx,.int .i64 vy]],[]=>some (i3 (P0 ux uy vx vy),[],[])
 |_,_=>none
def XC :List SV->List (Option SB)->Out
 | [.agg [.int .i64 ux,.int .i64 uy],.agg [.int .i64 vx,.int .i64 vy]],[]=>some (i3 (BC ux uy vx vy),[],[])
 |_,_=>none
def QE(x y:Int)(F T:Prop):Prop:=Br (decide ((if y>x then y else x)>281474976710656)) F (Br (decide ((if y<x then y else x)< -281474976710656)) F T)
theorem A3{x y:Int}{F T:Prop}(hF:nF x y=true->F)(hT:nF x y=false->T):QE x y F T:=by
 unfold QE
 unfold nF at hF hT
 refine Br.of (fun c=>hF ?_) fun c=>Br.of (fun c2=>hF ?_) fun c2=>hT ?_
 ·rw [c];rfl
 ·rw [c,c2];rfl
 ·rw [c,c2];rfl
theorem jC(t:TypeId)(ax ay bx ey x y:Int):aE Tryz.prog 184 [.arr 0 0 3 3] [some (.cells t [.int .i64 ax,.int .i64 ay,.int .i64 bx,.int .i64 ey,.int .i64 x,.int .i64 y])] (.bool (!uL ax ay bx ey x y))
  [some (.cells t [.int .i64 ax,.int .i64 ay,.int .i64 bx,.int .i64 ey,.int .i64 x,.int .i64 y])] []:=
 dT 5 p1 2 fun _ _ K hK=>by
  have e: ∀K,kC 5 p1 2 184 [.arr 0 0 3 3] [some (.cells t [.int .i64 ax,.int .i64 ay,.int .i64 bx,.int .i64 ey,.int .i64 x,.int .i64 y])] K=
   (fun F T=>QE ax ay F (QE bx ey F (QE x y F T))) (K (.bool false) [some (.cells t [.int .i64 ax,.int .i64 ay,.int .i64 bx,.int .i64 ey,.int .i64 x,.int .i64 y])] []) (K (.bool true) [some (.cells t [.int .i64 ax,.int .i64 ay,.int .i64 bx,.int .i64 ey,.int .i64 x,.int .i64 y])] []):=fun K=>by kernel_rfl
  rw [e]
  unfold uL at hK
  refine A3 (fun c=> ?_) fun c=>A3 (fun c2=> ?_) fun c2=>A3 (fun c3=> ?_) fun c3=> ?_
  ·rw [c] at hK;exact hK
  ·rw [c,c2] at hK;exact hK
  ·rw [c,c2,c3] at hK;exact hK
  ·rw [c,c2,c3] at hK;exact hK
def aBV :List SV->List (Option SB)->Out
 | [.arr 0 0 3 3],[some (.cells t [.int .i64 ax,.int .i64 ay,.int .i64 bx,.int .i64 ey,.int .i64 x,.int .i64 y])]=>
  some (.bool (!uL ax ay bx ey x y),[some (.cells t [.int .i64 ax,.int .i64 ay,.int .i64 bx,.int .i64 ey,.int .i64 x,.int .i64 y])],[])
 |_,_=>none
noncomputable def p2 :bT Tryz.prog:=((((p1).add 188 (one aFx) (aT fun xs σ v σ' d h=>by
  unfold aFx at h;split at h<;>cases h;first|exact jK|exact jK _|exact jK _ _|exact jK _ _ _|exact jK _ _ _ _|exact jK _ _ _ _ _|exact jK _ _ _ _ _ _|exact jK _ _ _ _ _ _ _|exact jK _ _ _ _ _ _ _ _|exact jK _ _ _ _ _ _ _ _ _|exact jK _ _ _ _ _ _ _ _ _ _|exact jK _ _ _ _ _ _ _ _ _ _ _)).add 190 (one aHX) (aT fun xs σ v σ' d h=>by
  unfold aHX at h;split at h<;>cases h;first|exact lF|exact lF _|exact lF _ _|exact lF _ _ _|exact lF _ _ _ _|exact lF _ _ _ _ _|exact lF _ _ _ _ _ _|exact lF _ _ _ _ _ _ _|exact lF _ _ _ _ _ _ _ _|exact lF _ _ _ _ _ _ _ _ _|exact lF _ _ _ _ _ _ _ _ _ _|exact lF _ _ _ _ _ _ _ _ _ _ _)).add 215 (one XC) (aT fun xs σ v σ' d h=>by
  unfold XC at h;split at h<;>cases h;first|exact iA|exact iA _|exact iA _ _|exact iA _ _ _|exact iA _ _ _ _|exact iA _ _ _ _ _|exact iA _ _ _ _ _ _|exact iA _ _ _ _ _ _ _|exact iA _ _ _ _ _ _ _ _|exact iA _ _ _ _ _ _ _ _ _|exact iA _ _ _ _ _ _ _ _ _ _|exact iA _ _ _ _ _ _ _ _ _ _ _)).add 184 (one aBV) (aT fun xs σ v σ' d h=>by
  unfold aBV at h;split at h<;>cases h;first|exact jC|exact jC _|exact jC _ _|exact jC _ _ _|exact jC _ _ _ _|exact jC _ _ _ _ _|exact jC _ _ _ _ _ _|exact jC _ _ _ _ _ _ _|exact jC _ _ _ _ _ _ _ _|exact jC _ _ _ _ _ _ _ _ _|exact jC _ _ _ _ _ _ _ _ _ _|exact jC _ _ _ _ _ _ _ _ _ _ _)
def zO(ax ay bx ey x y:Int):Bool:=decide (0<=BZ ax ay bx ey x y)&&decide (0<=BZ bx ey ax ay x y)
theorem gD(ax ay bx ey x y:Int):aE Tryz.prog 187 [.agg [.int .i64 ax,.int .i64 ay],.agg [.int .i64 bx,.int .i64 ey],.agg [.int .i64 x,.int .i64 y]] [] (.bool (zO ax ay bx ey x y)) [] []:=
 aS p2 2 fun _ _ K hK=>by
  have e: ∀K,run p2 2 187 [.agg [.int .i64 ax,.int .i64 ay],.agg [.int .i64 bx,.int .i64 ey],.agg [.int .i64 x,.int .i64 y]] [] K=
   Br (decide (gB (wvw (BZ ax ay bx ey x y)) 0>=0)) (K (.bool (decide (gB (wvw (BZ bx ey ax ay x y)) 0>=0))) [] []) (K (.bool false) [] []):=fun K=>by kernel_rfl
  rw [e,C9,C9,qE,qE]
  unfold zO at hK
  refine Br.of (fun c=> ?_) fun c=> ?_<;>rw [c] at hK<;>exact hK
theorem jJ(ax ay bx ey x y:Int):aE Tryz.prog 185 [.agg [.int .i64 ax,.int .i64 ay],.agg [.int .i64 bx,.int .i64 ey],.agg [.int .i64 x,.int .i64 y]] [] (i3 (BN ax ay bx ey x y)) [] []:=
 aS p2 2 fun _ _ K hK=>by
  have e: ∀K,run p2 2 185 [.agg [.int .i64 ax,.int .i64 ay],.agg [.int .i64 bx,.int .i64 ey],.agg [.int .i64 x,.int .i64 y]] [] K=K (i3 (BN ax ay bx ey x y)) [] []:=fun K=>by kernel_rfl
  rw [e];exact hK
def NZ :List SV->List (Option SB)->Out
 | [.agg [.int .i64 ax,.int .i64 ay],.agg [.int .i64 bx,.int .i64 ey],.agg [.int .i64 x,.int .i64 y]],[]=>some (.bool (zO ax ay bx ey x y),[],[])
 |_,_=>none
def aBT :List SV->List (Option SB)->Out
 | [.agg [.int .i64 ax,.int .i64 ay],.agg [.int .i64 bx,.int .i64 ey],.agg [.int .i64 x,.int .i64 y]],[]=>some (i3 (BN ax ay bx ey x y),[],[])
 |_,_=>none
noncomputable def p3 :bT Tryz.prog:=((p2).add 187 (one NZ) (aT fun xs σ v σ' d h=>by
  unfold NZ at h;split at h<;>cases h;first|exact gD|exact gD _|exact gD _ _|exact gD _ _ _|exact gD _ _ _ _|exact gD _ _ _ _ _|exact gD _ _ _ _ _ _|exact gD _ _ _ _ _ _ _|exact gD _ _ _ _ _ _ _ _|exact gD _ _ _ _ _ _ _ _ _|exact gD _ _ _ _ _ _ _ _ _ _|exact gD _ _ _ _ _ _ _ _ _ _ _)).add 185 (one aBT) (aT fun xs σ v σ' d h=>by
  unfold aBT at h;split at h<;>cases h;first|exact jJ|exact jJ _|exact jJ _ _|exact jJ _ _ _|exact jJ _ _ _ _|exact jJ _ _ _ _ _|exact jJ _ _ _ _ _ _|exact jJ _ _ _ _ _ _ _|exact jJ _ _ _ _ _ _ _ _|exact jJ _ _ _ _ _ _ _ _ _|exact jJ _ _ _ _ _ _ _ _ _ _|exact jJ _ _ _ _ _ _ _ _ _ _ _)
def aMh(A L:Int)(K:KC):Prop:=
 Br (!i4 (wvw A) L) (K (.int .i64 0) [] []) (Br (decide (gB (wvw (nY (wvw A) L*L)) (wvw A)<0)) (K (.int .i64 (IntKind.i64.wrap (nY (wvw A) L+1))) [] []) (K (.int .i64 (nY (wvw A) L)) [] []))
theorem VD(ax ay bx ey x y:Int)(K:KC):run p3 2 149 [.agg [.int .i64 ax,.int .i64 ay],.agg [.int .i64 bx,.int .i64 ey],.agg [.int .i64 x,.int .i64 y]] [] K=
  Br (!!uL ax ay bx ey x y) (K (.int .i64 0) [] []) (Br (decide (gB (wvw (BN ax ay bx ey x y)) 0>=0)) (K (.int .i64 0) [] []) (Br (!zO ax ay bx ey x y) (K (.int .i64 0) [] [])
   (aMh (aHA (BN ax ay bx ey x y)) (IntKind.i64.wrap (gU (wvw (P0 (w64 (bx - ax)) (w64 (ey - ay)) (w64 (bx - ax)) (w64 (ey - ay)))))) K))):=by kernel_rfl
theorem eX(ax ay bx ey x y:Int):aE Tryz.prog 149 [.agg [.int .i64 ax,.int .i64 ay],.agg [.int .i64 bx,.int .i64 ey],.agg [.int .i64 x,.int .i64 y]] [] (.int .i64 (AX ax ay bx ey x y)) [] []:=
 aS p3 2 fun _ _ K hK=>by
  rw [VD]
  unfold AX at hK
  refine Br.of (fun c=> ?_) fun c=> ?_
  ·rw [fj] at c;rw [c] at hK;exact hK
  rw [fj] at c;rw [c] at hK
  simp only [ap] at hK
  obtain ⟨⟨h1,h2⟩,⟨h3,h4⟩,⟨h5,h6⟩⟩:=nL c
  have r1:=FO c
  rw [C9,qE,PW c]
  unfold zO
  rw [vT h1 h2 h3 h4,vT (by omega) (by omega) h5 h6]
  refine Br.of (fun c1=> ?_) fun c1=>Br.of (fun c2=> ?_) fun c2=> ?_
  ·rw [c1] at hK;exact hK
  ·rw [c1] at hK
   have:(decide (oZ ax ay bx ey x y<0)||decide (oZ bx ey ax ay x y<0))=true:=by
    simp only [dg,bf,aw] at c2
    simp only [Bool.or_eq_true,ak];omega
   rw [this] at hK;exact hK
  ·have c1':=ae c1
   rw [c1] at hK
   have:(decide (oZ ax ay bx ey x y<0)||decide (oZ bx ey ax ay x y<0))=false:=by
    simp only [dr,af,ak] at c2
    simp only [dh,aw];omega
   rw [this] at hK
   simp only [Bool.or_false,ap] at hK
   obtain ⟨l1,l2,l3⟩:=JQ c (by omega)
   have hd:P0 (w64 (bx - ax)) (w64 (ey - ay)) (w64 (bx - ax)) (w64 (ey - ay))=oZ ax ay bx ey bx ey:=vT h1 h2 h1 h2
   rw [hd,qE,fK]
   generalize hL:gU (oZ ax ay bx ey bx ey)=L at*
   rw [show (L+9223372036854775808)%18446744073709551616 - 9223372036854775808=L by omega,MA (by omega) (by omega)]
   generalize hA: -oF ax ay bx ey x y=A at*
   have hr:=aB8 (A:=A) (L:=L) (by omega) l1
   have hdn:yE A L=iY A L:=by
    unfold yE aQ
    rw [aj (show¬A<0 by omega),aj (show¬L<0 by omega)];rfl
   have hc0:0<=uJ A L/\uJ A L<=1125899906842624:=by
    unfold uJ
    refine ⟨dx (by omega) (by omega), ?_⟩
    have:(A+L - 1)/L<1125899906842625:=by rw [ec l1];omega
    omega
   have hq0:0<=iY A L:=by
    have:=dx (show 0<=A by omega) (show 0<=L by omega)
    unfold iY;cases ((decide (A%L>L - A%L)||A%L==L - A%L&&A/L%2==1)&&decide (A%L>0))<;>simp only [ar,ap]<;>omega
   have hq:iY A L<=uJ A L:=by
    rw [<- hr];cases decide (iY A L*L<A)<;>simp only [ar,ap]<;>omega
   have hg:i4 A L=true:=by
    unfold i4
    rw [hdn,(kM _).2 (by omega),Bool.and_true,ei];omega
   have hv:nY A L=iY A L:=by unfold nY;rw [hg,hdn];rfl
   unfold aMh
   rw [qE,hg,hv,qE]
   refine Br.of (fun c=>by cases c) fun _=> ?_
   have hcm:decide (gB (iY A L*L) A<0)=decide (iY A L*L<A):=by
    unfold gB
    cases h:decide (iY A L*L<A)
    ·simp only [ap];cases decide (A<iY A L*L)<;>rfl
    ·rfl
   rw [hcm]
   refine Br.of (fun c3=> ?_) fun c3=> ?_<;>rw [c3] at hr
   ·simp only [ar] at hr
    rw [fK,show (iY A L+1+9223372036854775808)%18446744073709551616 - 9223372036854775808=iY A L+1 by omega,hr]
    exact hK
   ·simp only [ap] at hr
    rw [hr];exact hK
def JA :List SV->List (Option SB)->Out
 | [.agg [.int .i64 ax,.int .i64 ay],.agg [.int .i64 bx,.int .i64 ey],.agg [.int .i64 x,.int .i64 y]],[]=>some (.int .i64 (AX ax ay bx ey x y),[],[])
 |_,_=>none
noncomputable def p4 :bT Tryz.prog:=(p3).add 149 (one JA) (aT fun xs σ v σ' d h=>by
  unfold JA at h;split at h<;>cases h;first|exact eX|exact eX _|exact eX _ _|exact eX _ _ _|exact eX _ _ _ _|exact eX _ _ _ _ _|exact eX _ _ _ _ _ _|exact eX _ _ _ _ _ _ _|exact eX _ _ _ _ _ _ _ _|exact eX _ _ _ _ _ _ _ _ _|exact eX _ _ _ _ _ _ _ _ _ _|exact eX _ _ _ _ _ _ _ _ _ _ _)
theorem aCu(t:TypeId)(x m:Int)(K:KC):run p4 2 212 [.int .i64 x,.ptr 0 0] [some (.cells t [.int .i64 m])] K=
 (Br (decide (x>m)) (K (SV.bool true) [some (SB.cells t [SV.int .i64 m])] []) (K (SV.bool (decide (x<IntKind.wrap IntKind.i64 (0 - m)))) [some (SB.cells t [SV.int .i64 m])] [])):=by kernel_rfl
theorem jO(t:TypeId)(x m:Int):aE Tryz.prog 212 [.int .i64 x,.ptr 0 0] [some (.cells t [.int .i64 m])] (.bool (eY m x)) [some (.cells t [.int .i64 m])] []:=
 aS p4 2 fun _ _ K hK=>by
  rw [aCu];exact orQ hK
def aBG :List SV->List (Option SB)->Out
 | [.int .i64 x,.ptr 0 0],[some (.cells t [.int .i64 m])]=>some (.bool (eY m x),[some (.cells t [.int .i64 m])],[])
 |_,_=>none
theorem aFr(a0 a1 a2 a3 a4 a5:Int)(nh:Nat)(h:Nat->List SV)(ng:Nat)(g:Nat->List SV)(nk:Nat)(kg:Nat->List SV)(nl:Nat)(l:Nat->List SV)(nr:Nat)(rl:Nat->List SV)(nt:Nat)(gt:Nat->List SV)(sx sy hd lp:Int)(k:Int)(K:KC):run p4 2 176 [.int .i64 k,.ptr 0 0] [some (.cells 34 [.int .i64 a0,.int .i64 a1,.int .i64 a2,.int .i64 a3,.int .i64 a4,.int .i64 a5,.ro nh 1 h,.ro ng 1 g,.ro nk 3 kg,.ro nl 2 l,.ro nr 1 rl,.ro nt 5 gt,.int .i64 sx,.int .i64 sy,.int .u32 hd,.int .i64 lp])] K=
 (Br (decide (k<0)) (K (SV.bool true) [some (SB.cells 34 [SV.int .i64 a0,SV.int .i64 a1,SV.int .i64 a2,SV.int .i64 a3,SV.int .i64 a4,SV.int .i64 a5,SV.ro nh 1 h,SV.ro ng 1 g,SV.ro nk 3 kg,SV.ro nl 2 l,SV.ro nr 1 rl,SV.ro nt 5 gt,SV.int .i64 sx,SV.int .i64 sy,SV.int .u32 hd,SV.int .i64 lp])] []) (K (SV.bool (decide (k>=(↑nk:Int)))) [some (SB.cells 34 [SV.int .i64 a0,SV.int .i64 a1,SV.int .i64 a2,SV.int .i64 a3,SV.int .i64 a4,SV.int .i64 a5,SV.ro nh 1 h,SV.ro ng 1 g,SV.ro nk 3 kg,SV.ro nl 2 l,SV.ro nr 1 rl,SV.ro nt 5 gt,SV.int .i64 sx,SV.int .i64 sy,SV.int .u32 hd,SV.int .i64 lp])] [])):=by kernel_rfl
theorem aBE(a0 a1 a2 a3 a4 a5:Int)(nh:Nat)(h:Nat->List SV)(ng:Nat)(g:Nat->List SV)(nk:Nat)(kg:Nat->List SV)(nl:Nat)(l:Nat->List SV)(nr:Nat)(rl:Nat->List SV)(nt:Nat)(gt:Nat->List SV)(sx sy hd lp:Int)(k:Int):aE Tryz.prog 176 [.int .i64 k,.ptr 0 0] [some (.cells 34 [.int .i64 a0,.int .i64 a1,.int .i64 a2,.int .i64 a3,.int .i64 a4,.int .i64 a5,.ro nh 1 h,.ro ng 1 g,.ro nk 3 kg,.ro nl 2 l,.ro nr 1 rl,.ro nt 5 gt,.int .i64 sx,.int .i64 sy,.int .u32 hd,.int .i64 lp])] (.bool (pN nk k)) [some (.cells 34 [.int .i64 a0,.int .i64 a1,.int .i64 a2,.int .i64 a3,.int .i64 a4,.int .i64 a5,.ro nh 1 h,.ro ng 1 g,.ro nk 3 kg,.ro nl 2 l,.ro nr 1 rl,.ro nt 5 gt,.int .i64 sx,.int .i64 sy,.int .u32 hd,.int .i64 lp])] []:=
 aS p4 2 fun _ _ K hK=>by
  rw [aFr];exact orQ hK
def RV :List SV->List (Option SB)->Out
 | [.int .i64 k,.ptr 0 0],[some (.cells 34 [.int .i64 a0,.int .i64 a1,.int .i64 a2,.int .i64 a3,.int .i64 a4,.int .i64 a5,.ro nh 1 h,.ro ng 1 g,.ro nk 3 kg,.ro nl 2 l,.ro nr 1 rl,.ro nt 5 gt,.int .i64 sx,.int .i64 sy,.int .u32 hd,.int .i64 lp])]=>
  some (.bool (pN nk k),[some (.cells 34 [.int .i64 a0,.int .i64 a1,.int .i64 a2,.int .i64 a3,.int .i64 a4,.int .i64 a5,.ro nh 1 h,.ro ng 1 g,.ro nk 3 kg,.ro nl 2 l,.ro nr 1 rl,.ro nt 5 gt,.int .i64 sx,.int .i64 sy,.int .u32 hd,.int .i64 lp])],[])
 |_,_=>none
theorem Z0(xs:List SV)(σ:List (Option SB)):Sat Tryz.prog 176 xs σ (one RV xs σ):=
 aT (fun xs σ v σ' d h=>by
  unfold RV at h;split at h<;>cases h;apply aBE) xs σ
theorem aFz(x y:Int)(o:Bool)(K:KC):run p4 2 177 [.agg [.int .i64 x,.int .i64 y,.bool o]] [] K=
 (Br (decide ((bif false then if y>x then y else x else if y<x then y else x)<0)) (K (SV.bool true) [] []) (Br (decide (x>8589934592)) (K (SV.bool true) [] []) (K (SV.bool (decide (y>4294967296))) [] []))):=by kernel_rfl
theorem lE(x y:Int)(o:Bool):aE Tryz.prog 177 [.agg [.int .i64 x,.int .i64 y,.bool o]] [] (.bool (xE x y)) [] []:=
 aS p4 2 fun _ _ K hK=>by
  rw [aFz]
  simp only [qP]
  refine NY hK ?_
  unfold xE;simp only [ar,ap];grind
def aH7 :List SV->List (Option SB)->Out
 | [.agg [.int .i64 x,.int .i64 y,.bool _]],[]=>some (.bool (xE x y),[],[])
 |_,_=>none
theorem aFJ(x y:Int)(K:KC):run p4 2 145 [.agg [.int .i64 x,.int .i64 y]] [] K=
 (Br (decide ((bif true then if y>x then y else x else if y<x then y else x)>140737488355328)) (K (SV.bool true) [] []) (K (SV.bool (decide ((bif false then if y>x then y else x else if y<x then y else x)< -140737488355328))) [] [])):=by kernel_rfl
theorem kZ(x y:Int):aE Tryz.prog 145 [.agg [.int .i64 x,.int .i64 y]] [] (.bool (jG x y)) [] []:=
 aS p4 2 fun _ _ K hK=>by
  rw [aFJ];exact orQ hK
theorem aHc(x y:Int)(K:KC):run p4 2 182 [.agg [.int .i64 x,.int .i64 y]] [] K=
 (Br (decide ((bif true then if y>x then y else x else if y<x then y else x)>281474976710656)) (K (SV.bool true) [] []) (K (SV.bool (decide ((bif false then if y>x then y else x else if y<x then y else x)< -281474976710656))) [] [])):=by kernel_rfl
theorem lG(x y:Int):aE Tryz.prog 182 [.agg [.int .i64 x,.int .i64 y]] [] (.bool (nF x y)) [] []:=
 aS p4 2 fun _ _ K hK=>by
  rw [aHc];exact orQ hK
def aIs :List SV->List (Option SB)->Out
 | [.agg [.int .i64 x,.int .i64 y]],[]=>some (.bool (jG x y),[],[])
 |_,_=>none
def aIC :List SV->List (Option SB)->Out
 | [.agg [.int .i64 x,.int .i64 y]],[]=>some (.bool (nF x y),[],[])
 |_,_=>none
theorem UA(t:Trk)(K:KC):run p4 2 173 [.agg (aI t)] [] K=
 (Br (decide (1<=t.cols)) (Br (!decide (t.cols<=64)) (K (SV.bool false) [] []) (Br (decide (1<=t.rows)) (Br (!decide (t.rows<=64)) (K (SV.bool false) [] []) (Br (decide ((↑t.nk:Int)<1)) (K (SV.bool false) [] []) (Br (decide ((↑t.nk:Int)>8)) (K (SV.bool false) [] []) (Br ((↑t.nh:Int)==IntKind.wrap IntKind.i64 (IntKind.wrap IntKind.i64 (t.cols+1)*IntKind.wrap IntKind.i64 (t.rows+1))) (K (SV.bool ((↑t.ng:Int)==IntKind.wrap IntKind.i64 (t.cols*t.rows))) [] []) (K (SV.bool false) [] []))))) (K (SV.bool false) [] []))) (K (SV.bool false) [] [])):=by kernel_rfl
theorem SN(t:Trk):aE Tryz.prog 173 [.agg (aI t)] [] (.bool (iD t.cols t.rows t.nh t.ng t.nk)) [] []:=
 aS p4 2 fun _ _ K hK=>by
  rw [UA]
  simp only [qP]
  refine NY hK ?_
  unfold iD;grind
noncomputable def p5 :bT Tryz.prog:=(((((p4).add 212 (one aBG) (aT fun xs σ v σ' d h=>by
  unfold aBG at h;split at h<;>cases h;first|exact jO|exact jO _|exact jO _ _|exact jO _ _ _|exact jO _ _ _ _|exact jO _ _ _ _ _|exact jO _ _ _ _ _ _|exact jO _ _ _ _ _ _ _|exact jO _ _ _ _ _ _ _ _|exact jO _ _ _ _ _ _ _ _ _|exact jO _ _ _ _ _ _ _ _ _ _|exact jO _ _ _ _ _ _ _ _ _ _ _)).add 176 (one RV) Z0).add 177 (one aH7) (aT fun xs σ v σ' d h=>by
  unfold aH7 at h;split at h<;>cases h;first|exact lE|exact lE _|exact lE _ _|exact lE _ _ _|exact lE _ _ _ _|exact lE _ _ _ _ _|exact lE _ _ _ _ _ _|exact lE _ _ _ _ _ _ _|exact lE _ _ _ _ _ _ _ _|exact lE _ _ _ _ _ _ _ _ _|exact lE _ _ _ _ _ _ _ _ _ _|exact lE _ _ _ _ _ _ _ _ _ _ _)).add 145 (one aIs) (aT fun xs σ v σ' d h=>by
  unfold aIs at h;split at h<;>cases h;first|exact kZ|exact kZ _|exact kZ _ _|exact kZ _ _ _|exact kZ _ _ _ _|exact kZ _ _ _ _ _|exact kZ _ _ _ _ _ _|exact kZ _ _ _ _ _ _ _|exact kZ _ _ _ _ _ _ _ _|exact kZ _ _ _ _ _ _ _ _ _|exact kZ _ _ _ _ _ _ _ _ _ _|exact kZ _ _ _ _ _ _ _ _ _ _ _)).add 182 (one aIC) (aT fun xs σ v σ' d h=>by
  unfold aIC at h;split at h<;>cases h;first|exact lG|exact lG _|exact lG _ _|exact lG _ _ _|exact lG _ _ _ _|exact lG _ _ _ _ _|exact lG _ _ _ _ _ _|exact lG _ _ _ _ _ _ _|exact lG _ _ _ _ _ _ _ _|exact lG _ _ _ _ _ _ _ _ _|exact lG _ _ _ _ _ _ _ _ _ _|exact lG _ _ _ _ _ _ _ _ _ _ _)
def G5 :List (Nat×eI):=[(0,⟨[4,0,1,7,8],[0],[],1,[]⟩)]
def QP(t:TypeId)(m:Int)(X:Nat->Int)(n:Nat)(r i:Int):St:=⟨[(4,.int .i64 r),(0,.ro n 1 (aP X)),(1,.fn (.func 212) [] [.ptr 0 0]),(7,.int .i64 n),(8,.int .i64 i)],[(0,some (.cells t [.int .i64 m]))],1,[],19⟩
theorem aBo(K:KC)(t:TypeId)(m:Int)(X:Nat->Int)(n:Nat):cL G5 (fun _=>0) p5 2 234 [.ro n 1 (aP X),.fn (.func 212) [] [.ptr 0 0]] [some (.cells t [.int .i64 m])] K=
  ∃k,aV (fG G5 (fun _=>0) p5 1) (aA G5 1) Tryz.f234 [1,0,1,0] 0 1 K k (QP t m X n 0 0):=by kernel_rfl
theorem aA2(K:Ex->St->Prop)(t:TypeId)(m:Int)(X:Nat->Int)(n i:Nat):aF (fG G5 (fun _=>0) p5 1) (aA G5 1) Tryz.f234 [1,0,1,0] 0 K (QP t m X n 0 i)=
  Br (decide ((i:Int)<n)) (If (decide (0<=(i:Int))&&decide ((i:Int)<n)) (Br (eY m (X i)) (K .ret (QP t m X n i i)) (K .normal (QP t m X n 0 (IntKind.i64.wrap (i+1)))))) (K (.exit 0) (QP t m X n 0 i)):=by kernel_rfl
theorem aGv(K:KC)(t:TypeId)(m:Int)(X:Nat->Int)(n:Nat)(r i:Int):aB (fG G5 (fun _=>0) p5 1) (aA G5 1) Tryz.f234 [1,0,1,0] 1 K .ret (QP t m X n r i)=K (.int .i64 r) [some (.cells t [.int .i64 m])] []:=by kernel_rfl
theorem ZJ(K:KC)(t:TypeId)(m:Int)(X:Nat->Int)(n:Nat)(i:Int):aB (fG G5 (fun _=>0) p5 1) (aA G5 1) Tryz.f234 [1,0,1,0] 1 K (.exit 0) (QP t m X n 0 i)=K (.int .i64 (-1)) [some (.cells t [.int .i64 m])] []:=by kernel_rfl
theorem aLn(t:TypeId)(m:Int)(X:Nat->Int)(n:Nat):aE Tryz.prog 234 [.ro n 1 (aP X),.fn (.func 212) [] [.ptr 0 0]] [some (.cells t [.int .i64 m])] (.int .i64 (mD (fun i=>eY m (X i)) n 0)) [some (.cells t [.int .i64 m])] []:=
 eF G5 (fun _=>0) p5 2 (fun _ h=>nomatch h) fun ⟨⟨hl,_⟩,_⟩ _ K hK=>by
  rw [aBo]
  exact pP (QP t m X n) n hl _ (fun K i=>aA2 K t m X n i) (aGv K t m X n) (ZJ K t m X n) (hK [] fun _ h=>nomatch h)
def G8 :List (Nat×eI):=[(0,⟨[4,0,1,7,8],[0],[],1,[]⟩)]
def QC(a0 a1 a2 a3 a4 a5:Int)(nh:Nat)(h:Nat->List SV)(ng:Nat)(g:Nat->List SV)(nk:Nat)(kg:Nat->List SV)(nl:Nat)(l:Nat->List SV)(nr:Nat)(rl:Nat->List SV)(nt:Nat)(gt:Nat->List SV)(sx sy hd lp:Int)(X:Nat->Int)(n:Nat)(r i:Int):St:=⟨[(4,.int .i64 r),(0,.ro n 1 (aP X)),(1,.fn (.func 176) [] [.ptr 0 0]),(7,.int .i64 n),(8,.int .i64 i)],[(0,some (.cells 34 [.int .i64 a0,.int .i64 a1,.int .i64 a2,.int .i64 a3,.int .i64 a4,.int .i64 a5,.ro nh 1 h,.ro ng 1 g,.ro nk 3 kg,.ro nl 2 l,.ro nr 1 rl,.ro nt 5 gt,.int .i64 sx,.int .i64 sy,.int .u32 hd,.int .i64 lp]))],1,[],19⟩
theorem X3(K:KC)(a0 a1 a2 a3 a4 a5:Int)(nh:Nat)(h:Nat->List SV)(ng:Nat)(g:Nat->List SV)(nk:Nat)(kg:Nat->List SV)(nl:Nat)(l:Nat->List SV)(nr:Nat)(rl:Nat->List SV)(nt:Nat)(gt:Nat->List SV)(sx sy hd lp:Int)(X:Nat->Int)(n:Nat):cL G8 (fun _=>0) p5 2 213 [.ro n 1 (aP X),.fn (.func 176) [] [.ptr 0 0]] [some (.cells 34 [.int .i64 a0,.int .i64 a1,.int .i64 a2,.int .i64 a3,.int .i64 a4,.int .i64 a5,.ro nh 1 h,.ro ng 1 g,.ro nk 3 kg,.ro nl 2 l,.ro nr 1 rl,.ro nt 5 gt,.int .i64 sx,.int .i64 sy,.int .u32 hd,.int .i64 lp])] K=
  ∃k,aV (fG G8 (fun _=>0) p5 1) (aA G8 1) Tryz.f213 [1,0,1,0] 0 1 K k (QC a0 a1 a2 a3 a4 a5 nh h ng g nk kg nl l nr rl nt gt sx sy hd lp X n 0 0):=by kernel_rfl
theorem aAQ(K:Ex->St->Prop)(a0 a1 a2 a3 a4 a5:Int)(nh:Nat)(h:Nat->List SV)(ng:Nat)(g:Nat->List SV)(nk:Nat)(kg:Nat->List SV)(nl:Nat)(l:Nat->List SV)(nr:Nat)(rl:Nat->List SV)(nt:Nat)(gt:Nat->List SV)(sx sy hd lp:Int)(X:Nat->Int)(n i:Nat):aF (fG G8 (fun _=>0) p5 1) (aA G8 1) Tryz.f213 [1,0,1,0] 0 K (QC a0 a1 a2 a3 a4 a5 nh h ng g nk kg nl l nr rl nt gt sx sy hd lp X n 0 i)=
  Br (decide ((i:Int)<n)) (If (decide (0<=(i:Int))&&decide ((i:Int)<n)) (Br (pN nk (X i)) (K .ret (QC a0 a1 a2 a3 a4 a5 nh h ng g nk kg nl l nr rl nt gt sx sy hd lp X n i i)) (K .normal (QC a0 a1 a2 a3 a4 a5 nh h ng g nk kg nl l nr rl nt gt sx sy hd lp X n 0 (IntKind.i64.wrap (i+1)))))) (K (.exit 0) (QC a0 a1 a2 a3 a4 a5 nh h ng g nk kg nl l nr rl nt gt sx sy hd lp X n 0 i)):=by kernel_rfl
theorem aHu(K:KC)(a0 a1 a2 a3 a4 a5:Int)(nh:Nat)(h:Nat->List SV)(ng:Nat)(g:Nat->List SV)(nk:Nat)(kg:Nat->List SV)(nl:Nat)(l:Nat->List SV)(nr:Nat)(rl:Nat->List SV)(nt:Nat)(gt:Nat->List SV)(sx sy hd lp:Int)(X:Nat->Int)(n:Nat)(r i:Int):aB (fG G8 (fun _=>0) p5 1) (aA G8 1) Tryz.f213 [1,0,1,0] 1 K .ret (QC a0 a1 a2 a3 a4 a5 nh h ng g nk kg nl l nr rl nt gt sx sy hd lp X n r i)=K (.int .i64 r) [some (.cells 34 [.int .i64 a0,.int .i64 a1,.int .i64 a2,.int .i64 a3,.int .i64 a4,.int .i64 a5,.ro nh 1 h,.ro ng 1 g,.ro nk 3 kg,.ro nl 2 l,.ro nr 1 rl,.ro nt 5 gt,.int .i64 sx,.int .i64 sy,.int .u32 hd,.int .i64 lp])] []:=by kernel_rfl
theorem aAw(K:KC)(a0 a1 a2 a3 a4 a5:Int)(nh:Nat)(h:Nat->List SV)(ng:Nat)(g:Nat->List SV)(nk:Nat)(kg:Nat->List SV)(nl:Nat)(l:Nat->List SV)(nr:Nat)(rl:Nat->List SV)(nt:Nat)(gt:Nat->List SV)(sx sy hd lp:Int)(X:Nat->Int)(n:Nat)(i:Int):aB (fG G8 (fun _=>0) p5 1) (aA G8 1) Tryz.f213 [1,0,1,0] 1 K (.exit 0) (QC a0 a1 a2 a3 a4 a5 nh h ng g nk kg nl l nr rl nt gt sx sy hd lp X n 0 i)=K (.int .i64 (-1)) [some (.cells 34 [.int .i64 a0,.int .i64 a1,.int .i64 a2,.int .i64 a3,.int .i64 a4,.int .i64 a5,.ro nh 1 h,.ro ng 1 g,.ro nk 3 kg,.ro nl 2 l,.ro nr 1 rl,.ro nt 5 gt,.int .i64 sx,.int .i64 sy,.int .u32 hd,.int .i64 lp])] []:=by kernel_rfl
theorem aKU(a0 a1 a2 a3 a4 a5:Int)(nh:Nat)(h:Nat->List SV)(ng:Nat)(g:Nat->List SV)(nk:Nat)(kg:Nat->List SV)(nl:Nat)(l:Nat->List SV)(nr:Nat)(rl:Nat->List SV)(nt:Nat)(gt:Nat->List SV)(sx sy hd lp:Int)(X:Nat->Int)(n:Nat):aE Tryz.prog 213 [.ro n 1 (aP X),.fn (.func 176) [] [.ptr 0 0]] [some (.cells 34 [.int .i64 a0,.int .i64 a1,.int .i64 a2,.int .i64 a3,.int .i64 a4,.int .i64 a5,.ro nh 1 h,.ro ng 1 g,.ro nk 3 kg,.ro nl 2 l,.ro nr 1 rl,.ro nt 5 gt,.int .i64 sx,.int .i64 sy,.int .u32 hd,.int .i64 lp])] (.int .i64 (mD (fun i=>pN nk (X i)) n 0)) [some (.cells 34 [.int .i64 a0,.int .i64 a1,.int .i64 a2,.int .i64 a3,.int .i64 a4,.int .i64 a5,.ro nh 1 h,.ro ng 1 g,.ro nk 3 kg,.ro nl 2 l,.ro nr 1 rl,.ro nt 5 gt,.int .i64 sx,.int .i64 sy,.int .u32 hd,.int .i64 lp])] []:=
 eF G8 (fun _=>0) p5 2 (fun _ h=>nomatch h) fun ⟨⟨hl,_⟩,_⟩ _ K hK=>by
  rw [X3]
  exact pP (QC a0 a1 a2 a3 a4 a5 nh h ng g nk kg nl l nr rl nt gt sx sy hd lp X n) n hl _ (fun K i=>aAQ K a0 a1 a2 a3 a4 a5 nh h ng g nk kg nl l nr rl nt gt sx sy hd lp X n i) (aHu K a0 a1 a2 a3 a4 a5 nh h ng g nk kg nl l nr rl nt gt sx sy hd lp X n) (aAw K a0 a1 a2 a3 a4 a5 nh h ng g nk kg nl l nr rl nt gt sx sy hd lp X n) (hK [] fun _ h=>nomatch h)
def G4 :List (Nat×eI):=[(0,⟨[4,0,1,7,8],[],[],0,[]⟩)]
def PD(X Y:Nat->Int)(O:Nat->Bool)(n:Nat)(r i:Int):St:=⟨[(4,.int .i64 r),(0,.ro n 3 (V1 X Y O)),(1,.fn (.func 177) [] []),(7,.int .i64 n),(8,.int .i64 i)],[],0,[],19⟩
theorem XR(K:KC)(X Y:Nat->Int)(O:Nat->Bool)(n:Nat):cL G4 (fun _=>0) p5 2 214 [.ro n 3 (V1 X Y O),.fn (.func 177) [] []] [] K=
  ∃k,aV (fG G4 (fun _=>0) p5 1) (aA G4 0) Tryz.f214 [1,0,1,0] 0 0 K k (PD X Y O n 0 0):=by kernel_rfl
theorem ZP(K:Ex->St->Prop)(X Y:Nat->Int)(O:Nat->Bool)(n i:Nat):aF (fG G4 (fun _=>0) p5 1) (aA G4 0) Tryz.f214 [1,0,1,0] 0 K (PD X Y O n 0 i)=
  Br (decide ((i:Int)<n)) (If (decide (0<=(i:Int))&&decide ((i:Int)<n)) (Br (xE (X i) (Y i)) (K .ret (PD X Y O n i i)) (K .normal (PD X Y O n 0 (IntKind.i64.wrap (i+1)))))) (K (.exit 0) (PD X Y O n 0 i)):=by kernel_rfl
theorem aHC(K:KC)(X Y:Nat->Int)(O:Nat->Bool)(n:Nat)(r i:Int):aB (fG G4 (fun _=>0) p5 1) (aA G4 0) Tryz.f214 [1,0,1,0] 0 K .ret (PD X Y O n r i)=K (.int .i64 r) [] []:=by kernel_rfl
theorem aAo(K:KC)(X Y:Nat->Int)(O:Nat->Bool)(n:Nat)(i:Int):aB (fG G4 (fun _=>0) p5 1) (aA G4 0) Tryz.f214 [1,0,1,0] 0 K (.exit 0) (PD X Y O n 0 i)=K (.int .i64 (-1)) [] []:=by kernel_rfl
theorem aKv(X Y:Nat->Int)(O:Nat->Bool)(n:Nat):aE Tryz.prog 214 [.ro n 3 (V1 X Y O),.fn (.func 177) [] []] [] (.int .i64 (mD (fun i=>xE (X i) (Y i)) n 0)) [] []:=
 eF G4 (fun _=>0) p5 2 (fun _ h=>nomatch h) fun ⟨⟨hl,_⟩,_⟩ _ K hK=>by
  rw [XR]
  exact pP (PD X Y O n) n hl _ (fun K i=>ZP K X Y O n i) (aHC K X Y O n) (aAo K X Y O n) (hK [] fun _ h=>nomatch h)
def HN :List (Nat×eI):=[(0,⟨[4,0,1,7,8],[],[],0,[]⟩)]
def O3(X Y:Nat->Int)(n:Nat)(r i:Int):St:=⟨[(4,.int .i64 r),(0,.ro n 2 (aN X Y)),(1,.fn (.func 145) [] []),(7,.int .i64 n),(8,.int .i64 i)],[],0,[],19⟩
theorem aAG(K:KC)(X Y:Nat->Int)(n:Nat):cL HN (fun _=>0) p5 2 183 [.ro n 2 (aN X Y),.fn (.func 145) [] []] [] K=
  ∃k,aV (fG HN (fun _=>0) p5 1) (aA HN 0) Tryz.f183 [1,0,1,0] 0 0 K k (O3 X Y n 0 0):=by kernel_rfl
theorem aBq(K:Ex->St->Prop)(X Y:Nat->Int)(n i:Nat):aF (fG HN (fun _=>0) p5 1) (aA HN 0) Tryz.f183 [1,0,1,0] 0 K (O3 X Y n 0 i)=
  Br (decide ((i:Int)<n)) (If (decide (0<=(i:Int))&&decide ((i:Int)<n)) (Br (jG (X i) (Y i)) (K .ret (O3 X Y n i i)) (K .normal (O3 X Y n 0 (IntKind.i64.wrap (i+1)))))) (K (.exit 0) (O3 X Y n 0 i)):=by kernel_rfl
theorem aHs(K:KC)(X Y:Nat->Int)(n:Nat)(r i:Int):aB (fG HN (fun _=>0) p5 1) (aA HN 0) Tryz.f183 [1,0,1,0] 0 K .ret (O3 X Y n r i)=K (.int .i64 r) [] []:=by kernel_rfl
theorem aAC(K:KC)(X Y:Nat->Int)(n:Nat)(i:Int):aB (fG HN (fun _=>0) p5 1) (aA HN 0) Tryz.f183 [1,0,1,0] 0 K (.exit 0) (O3 X Y n 0 i)=K (.int .i64 (-1)) [] []:=by kernel_rfl
theorem aIL(X Y:Nat->Int)(n:Nat):aE Tryz.prog 183 [.ro n 2 (aN X Y),.fn (.func 145) [] []] [] (.int .i64 (mD (fun i=>jG (X i) (Y i)) n 0)) [] []:=
 eF HN (fun _=>0) p5 2 (fun _ h=>nomatch h) fun ⟨⟨hl,_⟩,_⟩ _ K hK=>by
  rw [aAG]
  exact pP (O3 X Y n) n hl _ (fun K i=>aBq K X Y n i) (aHs K X Y n) (aAC K X Y n) (hK [] fun _ h=>nomatch h)
def HC :List (Nat×eI):=[(0,⟨[4,0,1,7,8],[],[],0,[]⟩)]
def NX(X Y:Nat->Int)(n:Nat)(r i:Int):St:=⟨[(4,.int .i64 r),(0,.ro n 2 (aN X Y)),(1,.fn (.func 182) [] []),(7,.int .i64 n),(8,.int .i64 i)],[],0,[],19⟩
theorem Y7(K:KC)(X Y:Nat->Int)(n:Nat):cL HC (fun _=>0) p5 2 183 [.ro n 2 (aN X Y),.fn (.func 182) [] []] [] K=
  ∃k,aV (fG HC (fun _=>0) p5 1) (aA HC 0) Tryz.f183 [1,0,1,0] 0 0 K k (NX X Y n 0 0):=by kernel_rfl
theorem XT(K:Ex->St->Prop)(X Y:Nat->Int)(n i:Nat):aF (fG HC (fun _=>0) p5 1) (aA HC 0) Tryz.f183 [1,0,1,0] 0 K (NX X Y n 0 i)=
  Br (decide ((i:Int)<n)) (If (decide (0<=(i:Int))&&decide ((i:Int)<n)) (Br (nF (X i) (Y i)) (K .ret (NX X Y n i i)) (K .normal (NX X Y n 0 (IntKind.i64.wrap (i+1)))))) (K (.exit 0) (NX X Y n 0 i)):=by kernel_rfl
theorem aGF(K:KC)(X Y:Nat->Int)(n:Nat)(r i:Int):aB (fG HC (fun _=>0) p5 1) (aA HC 0) Tryz.f183 [1,0,1,0] 0 K .ret (NX X Y n r i)=K (.int .i64 r) [] []:=by kernel_rfl
theorem Z9(K:KC)(X Y:Nat->Int)(n:Nat)(i:Int):aB (fG HC (fun _=>0) p5 1) (aA HC 0) Tryz.f183 [1,0,1,0] 0 K (.exit 0) (NX X Y n 0 i)=K (.int .i64 (-1)) [] []:=by kernel_rfl
theorem aJk(X Y:Nat->Int)(n:Nat):aE Tryz.prog 183 [.ro n 2 (aN X Y),.fn (.func 182) [] []] [] (.int .i64 (mD (fun i=>nF (X i) (Y i)) n 0)) [] []:=
 eF HC (fun _=>0) p5 2 (fun _ h=>nomatch h) fun ⟨⟨hl,_⟩,_⟩ _ K hK=>by
  rw [Y7]
  exact pP (NX X Y n) n hl _ (fun K i=>XT K X Y n i) (aGF K X Y n) (Z9 K X Y n) (hK [] fun _ h=>nomatch h)
def aKw :List SV->List (Option SB)->KC->Prop
 | [.ro n 1 g,.fn (.func 212) [] [.ptr 0 0]],[some (.cells t [.int .i64 m])],K=>sZ g/\K (.int .i64 (mD (fun i=>eY m (px (g i))) n 0)) [some (.cells t [.int .i64 m])] []
 |_,_,_=>False
theorem aHy(xs:List SV)(σ:List (Option SB)):Sat Tryz.prog 234 xs σ (aKw xs σ):=by
 intro K hK
 unfold aKw at hK
 split at hK
 ·obtain ⟨hp,hK⟩:=hK
  refine ⟨_,_,_,hK, ?_⟩
  rw [y9 hp];apply aLn
 ·exact hK.elim
def aJ0 :List SV->List (Option SB)->KC->Prop
 | [.ro n 1 gg,.fn (.func 176) [] [.ptr 0 0]],[some (.cells 34 [.int .i64 a0,.int .i64 a1,.int .i64 a2,.int .i64 a3,.int .i64 a4,.int .i64 a5,.ro nh 1 h,.ro ng 1 g,.ro nk 3 kg,.ro nl 2 l,.ro nr 1 rl,.ro nt 5 gt,.int .i64 sx,.int .i64 sy,.int .u32 hd,.int .i64 lp])],K=>
  sZ gg/\K (.int .i64 (mD (fun i=>pN nk (px (gg i))) n 0)) [some (.cells 34 [.int .i64 a0,.int .i64 a1,.int .i64 a2,.int .i64 a3,.int .i64 a4,.int .i64 a5,.ro nh 1 h,.ro ng 1 g,.ro nk 3 kg,.ro nl 2 l,.ro nr 1 rl,.ro nt 5 gt,.int .i64 sx,.int .i64 sy,.int .u32 hd,.int .i64 lp])] []
 |_,_,_=>False
theorem aFW(xs:List SV)(σ:List (Option SB)):Sat Tryz.prog 213 xs σ (aJ0 xs σ):=by
 intro K hK
 unfold aJ0 at hK
 split at hK
 ·obtain ⟨hp,hK⟩:=hK
  refine ⟨_,_,_,hK, ?_⟩
  rw [y9 hp];apply aKU
 ·exact hK.elim
def aJ2 :List SV->List (Option SB)->KC->Prop
 | [.ro n 3 g,.fn (.func 177) [] []],[],K=>LX g/\K (.int .i64 (mD (fun i=>xE (px (g i)) (py (g i))) n 0)) [] []
 |_,_,_=>False
theorem aHa(xs:List SV)(σ:List (Option SB)):Sat Tryz.prog 214 xs σ (aJ2 xs σ):=by
 intro K hK
 unfold aJ2 at hK
 split at hK
 ·obtain ⟨hp,hK⟩:=hK
  refine ⟨_,_,_,hK, ?_⟩
  rw [aBu hp];apply aKv
 ·exact hK.elim
def aKF :List SV->List (Option SB)->KC->Prop
 | [.ro n 2 g,.fn (.func 145) [] []],[],K=>pts g/\K (.int .i64 (mD (fun i=>jG (px (g i)) (py (g i))) n 0)) [] []
 | [.ro n 2 g,.fn (.func 182) [] []],[],K=>pts g/\K (.int .i64 (mD (fun i=>nF (px (g i)) (py (g i))) n 0)) [] []
 |_,_,_=>False
theorem aGd(xs:List SV)(σ:List (Option SB)):Sat Tryz.prog 183 xs σ (aKF xs σ):=by
 intro K hK
 unfold aKF at hK
 split at hK
 ·obtain ⟨hp,hK⟩:=hK
  refine ⟨_,_,_,hK, ?_⟩
  rw [rO hp];apply aIL
 ·obtain ⟨hp,hK⟩:=hK
  refine ⟨_,_,_,hK, ?_⟩
  rw [rO hp];apply aJk
 ·exact hK.elim
noncomputable def p6 :bT Tryz.prog:=((((p5).add 234 aKw aHy).add 213 aJ0 aFW).add 214 aJ2 aHa).add 183 aKF aGd
theorem aBz(m:Int)(n:Nat)(X:Nat->Int)(K:KC):run p6 3 178 [.int .i64 m,.ro n 1 (aP X)] [] K=
 ((sZ (aP X))/\(K (SV.bool !decide (mD (fun (i:Nat)=>eY m (px (aP X i))) n 0>=0)) [] [])):=by kernel_rfl
theorem aCx(t:TypeId)(x m:Int)(K:KC):kC 3 p5 5 178 [.int .i64 m,.arr 0 0 1 1] [some (.cells t [.int .i64 x])] K=
 (Br (eY m x) (K (SV.bool false) [some (SB.cells t [SV.int .i64 x])] []) (K (SV.bool true) [some (SB.cells t [SV.int .i64 x])] [])):=by kernel_rfl
theorem aBt(t:TypeId)(x y m:Int)(K:KC):kC 4 p5 5 178 [.int .i64 m,.arr 0 0 2 2] [some (.cells t [.int .i64 x,.int .i64 y])] K=
 (Br (eY m x) (K (SV.bool false) [some (SB.cells t [SV.int .i64 x,SV.int .i64 y])] []) (Br (eY m y) (K (SV.bool false) [some (SB.cells t [SV.int .i64 x,SV.int .i64 y])] []) (K (SV.bool true) [some (SB.cells t [SV.int .i64 x,SV.int .i64 y])] []))):=by kernel_rfl
theorem aCC(m:Int)(n:Nat)(X:Nat->Int):aE Tryz.prog 178 [.int .i64 m,.ro n 1 (aP X)] [] (.bool (!dO (fun i=>eY m (X i)) n)) [] []:=
 aS p6 3 fun _ _ K hK=>by
  rw [aBz];exact ⟨fun _=>rfl,hK⟩
theorem aC9(t:TypeId)(x m:Int):aE Tryz.prog 178 [.int .i64 m,.arr 0 0 1 1] [some (.cells t [.int .i64 x])] (.bool (!eY m x)) [some (.cells t [.int .i64 x])] []:=
 dT 3 p5 5 fun _ _ K hK=>by
  rw [aCx];simp only [qP];refine NY hK ?_;cases eY m x<;>rfl
theorem aBA(t:TypeId)(x y m:Int):aE Tryz.prog 178 [.int .i64 m,.arr 0 0 2 2] [some (.cells t [.int .i64 x,.int .i64 y])] (.bool (!(eY m x||eY m y))) [some (.cells t [.int .i64 x,.int .i64 y])] []:=
 dT 4 p5 5 fun _ _ K hK=>by
  rw [aBt];simp only [qP];refine NY hK ?_;cases eY m x<;>cases eY m y<;>rfl
def aCK :List SV->List (Option SB)->KC->Prop
 | [.int .i64 m,.ro n 1 g],[],K=>sZ g/\K (.bool (!dO (fun i=>eY m (px (g i))) n)) [] []
 | [.int .i64 m,.arr 0 0 1 1],[some (.cells t [.int .i64 x])],K=>K (.bool (!eY m x)) [some (.cells t [.int .i64 x])] []
 | [.int .i64 m,.arr 0 0 2 2],[some (.cells t [.int .i64 x,.int .i64 y])],K=>K (.bool (!(eY m x||eY m y))) [some (.cells t [.int .i64 x,.int .i64 y])] []
 |_,_,_=>False
theorem aBO(xs:List SV)(σ:List (Option SB)):Sat Tryz.prog 178 xs σ (aCK xs σ):=by
 intro K hK
 unfold aCK at hK
 split at hK
 ·obtain ⟨hp,hK⟩:=hK
  refine ⟨_,_,_,hK, ?_⟩
  rw [y9 hp];apply aCC
 ·exact ⟨_,_,_,hK,aC9 _ _ _⟩
 ·exact ⟨_,_,_,hK,aBA _ _ _ _⟩
 ·exact hK.elim
theorem ZG(n:Nat)(g:Nat->List SV)(K:KC):run p5 2 174 [.ro n 1 g] [] K=
 (Br (decide (0<n)) ((∀(i:Nat),i<n->(g i).length=1/\(g i).all bE=true)/\(Br (true&&(decide (n*8<=1099511627776)&&decide (n<9223372036854775808))) (Br (decide (0<n)) (K (SV.own 0 0 1 n) [some (SB.row 22 1 n g)] []) (K (SV.arr 0 0 0 0) [some (SB.cells 22 [])] [])) (False))) (False)):=by kernel_rfl
theorem aET(K:KC):run p5 2 174 [.nils] [] K=
 (K SV.nils [] []):=by kernel_rfl
theorem aCQ(K:KC):run p5 2 174 [.emp] [] K=
 (K (SV.arr 0 0 0 0) [some (SB.cells 22 [])] []):=by kernel_rfl
theorem aAZ(n:Nat)(g:Nat->List SV)(K:KC):run p5 2 175 [.ro n 1 g] [] K=
 (Br (decide (0<n)) ((∀(i:Nat),i<n->(g i).length=1/\(g i).all bE=true)/\(Br (true&&(decide (n*8<=1099511627776)&&decide (n<9223372036854775808))) (Br (decide (0<n)) (K (SV.own 0 0 1 n) [some (SB.row 3 1 n g)] []) (K (SV.arr 0 0 0 0) [some (SB.cells 3 [])] [])) (False))) (False)):=by kernel_rfl
theorem aBD(K:KC):run p5 2 175 [.nils] [] K=
 (K SV.nils [] []):=by kernel_rfl
theorem aCL(K:KC):run p5 2 175 [.emp] [] K=
 (K (SV.arr 0 0 0 0) [some (SB.cells 3 [])] []):=by kernel_rfl
theorem aAV(n:Nat)(g:Nat->List SV)(K:KC):run p5 2 147 [.ro n 2 g] [] K=
 (Br (decide (0<n)) ((∀(i:Nat),i<n->(g i).length=2/\(g i).all bE=true)/\(Br (true&&(decide (n*16<=1099511627776)&&decide (n<9223372036854775808))) (Br (decide (0<n)) (K (SV.own 0 0 2 n) [some (SB.row 24 2 n g)] []) (K (SV.arr 0 0 0 0) [some (SB.cells 24 [])] [])) (False))) (False)):=by kernel_rfl
theorem tX{g:Nat->List SV}(h:sZ g): ∀i,(g i).length=1/\(g i).all bE=true:=fun i=>by rw [h i];exact ⟨rfl,rfl⟩
theorem ZF{g:Nat->List SV}(h:pts g): ∀i,(g i).length=2/\(g i).all bE=true:=fun i=>by rw [h i];exact ⟨rfl,rfl⟩
theorem XS(n:Nat)(g:Nat->List SV)(hg:sZ g)(hn:n<=1000000):aE Tryz.prog 174 [.ro n 1 g] [] (.ro n 1 g) [] []:=
 tF (fun i _=>(tX hg i).1) (fun h0=>aS p5 2 fun _ _ K hK=>by
   rw [ZG]
   exact If.mk (ao h0) ⟨fun i _=>tX hg i,If.mk (by simp only [af,ak,ch];omega) (Br.of (fun _=>hK) fun c=>absurd h0 (ae c))⟩)
  (aS p5 2 fun _ _ K hK=>by rw [aET];exact hK) (aS p5 2 fun _ _ K hK=>by rw [aCQ];exact hK)
theorem aAN(n:Nat)(g:Nat->List SV)(hg:sZ g)(hn:n<=1000000):aE Tryz.prog 175 [.ro n 1 g] [] (.ro n 1 g) [] []:=
 tF (fun i _=>(tX hg i).1) (fun h0=>aS p5 2 fun _ _ K hK=>by
   rw [aAZ]
   exact If.mk (ao h0) ⟨fun i _=>tX hg i,If.mk (by simp only [af,ak,ch];omega) (Br.of (fun _=>hK) fun c=>absurd h0 (ae c))⟩)
  (aS p5 2 fun _ _ K hK=>by rw [aBD];exact hK) (aS p5 2 fun _ _ K hK=>by rw [aCL];exact hK)
theorem aAa(n:Nat)(g:Nat->List SV)(hg:pts g)(h0:0<n)(hn:n<=1000000):aE Tryz.prog 147 [.ro n 2 g] [] (.own 0 0 2 n) [some (.row 24 2 n g)] []:=
 aS p5 2 fun _ _ K hK=>by
  rw [aAV]
  exact If.mk (ao h0) ⟨fun i _=>ZF hg i,If.mk (by simp only [af,ak,ch];omega) (Br.of (fun _=>hK) fun c=>absurd h0 (ae c))⟩
def wH :List SV->List (Option SB)->KC->Prop
 | [.ro n 1 g],[],K=>sZ g/\n<=1000000/\K (.ro n 1 g) [] []
 |_,_,_=>False
theorem SF(xs:List SV)(σ:List (Option SB)):Sat Tryz.prog 174 xs σ (wH xs σ):=by
 intro K hK
 unfold wH at hK
 split at hK
 ·exact ⟨_,_,_,hK.2.2,XS _ _ hK.1 hK.2.1⟩
 ·exact hK.elim
theorem U1(xs:List SV)(σ:List (Option SB)):Sat Tryz.prog 175 xs σ (wH xs σ):=by
 intro K hK
 unfold wH at hK
 split at hK
 ·exact ⟨_,_,_,hK.2.2,aAN _ _ hK.1 hK.2.1⟩
 ·exact hK.elim
def LV :List SV->List (Option SB)->KC->Prop
 | [.ro n 2 g],[],K=>pts g/\(0<n/\n<=1000000)/\K (.own 0 0 2 n) [some (.row 24 2 n g)] []
 |_,_,_=>False
theorem RJ(xs:List SV)(σ:List (Option SB)):Sat Tryz.prog 147 xs σ (LV xs σ):=by
 intro K hK
 unfold LV at hK
 split at hK
 ·exact ⟨_,_,_,hK.2.2,aAa _ _ hK.1 hK.2.1.1 hK.2.1.2⟩
 ·exact hK.elim
def sH :List SV->List (Option SB)->KC->Prop
 | [.agg [.int .i64 a0,.int .i64 a1,.int .i64 a2,.int .i64 a3,.int .i64 a4,.int .i64 a5,.ro nh 1 h,.ro ng 1 g,.ro nk 3 kg,.ro nl 2 l,.ro nr 1 rl,.ro nt 5 gt,.int .i64 sx,.int .i64 sy,.int .u32 hd,.int .i64 lp]],[],K=>iX h g kg l rl gt/\K (.bool (iD a2 a3 nh ng nk)) [] []
 |_,_,_=>False
theorem OQ(xs:List SV)(σ:List (Option SB)):Sat Tryz.prog 173 xs σ (sH xs σ):=by
 intro K hK
 unfold sH at hK
 split at hK
 ·refine ⟨_,_,_,hK.2, ?_⟩
  rw [i5 hK.1]
  exact SN _
 ·exact hK.elim
noncomputable def p7 :bT Tryz.prog:=(((((p6).add 178 aCK aBO).add 174 wH SF).add 175 wH U1).add 147 LV RJ).add 173 sH OQ
abbrev W0 :FuncId:=179
def FU :List (Nat×eI):=[(0,⟨[0,2,3,14,15,16],[0],[],1,[]⟩)]
def DN(cell cols rows cx cy:Int)(n:Nat)(h:Nat->Int)(ng:Nat)(g:Nat->Int):List SV:=[.int .i64 cell,.int .i64 cols,.int .i64 rows,.int .i64 cx,.int .i64 cy,.ro n 1 (aP h),.ro ng 1 (aP g)]
def NW(cell cols rows cx cy:Int)(n:Nat)(h:Nat->Int)(ng:Nat)(g:Nat->Int)(w i:Int):St:=
 ⟨[(0,.ptr 0 0),(2,.bool false),(3,.int .i64 w),(14,.ro n 1 (aP h)),(15,.int .i64 n),(16,.int .i64 i)],[(0,some (.cells 245 (DN cell cols rows cx cy n h ng g)))],1,[],75⟩
noncomputable abbrev PB :Env:=fG FU (fun _=>0) p7 1
abbrev NI :List Nat:=[1,1,0,1,0]
theorem aBg(cell cols rows cx cy:Int)(n:Nat)(h:Nat->Int)(ng:Nat)(g:Nat->Int)(K:KC):cL FU (fun _=>0) p7 2 W0 [.ptr 0 0] [some (.cells 245 (DN cell cols rows cx cy n h ng g))] K=
  ∃k,aV PB (aA FU 1) Tryz.f179 NI 0 1 K k (NW cell cols rows cx cy n h ng g (IntKind.i64.wrap (cols+1)) 0):=by kernel_rfl
theorem J6(cell cols rows cx cy:Int)(n:Nat)(h:Nat->Int)(ng:Nat)(g:Nat->Int)(w:Int)(i:Nat)(K:Ex->St->Prop):aF PB (aA FU 1) Tryz.f179 NI 0 K (NW cell cols rows cx cy n h ng g w i)=
 (Br (decide ((↑i:Int)<(↑n:Int))) (Br (decide (0<=(↑i:Int))&&decide ((↑i:Int)<(↑n:Int))) (Br (w !=0) (Br ((IntKind.i64.wrap ((↑i:Int)+1)).tmod w !=0) (Br (decide (0<=IntKind.i64.wrap ((↑i:Int)+1))&&decide (IntKind.i64.wrap ((↑i:Int)+1)<(↑n:Int))) (Br (!!eY cell (IntKind.i64.wrap (h (IntKind.i64.wrap ((↑i:Int)+1)).toNat - h (↑i:Int).toNat))) (K Ex.ret {tmps:=[(0,SV.ptr 0 0),(2,SV.bool false),(3,SV.int .i64 w),(14,SV.ro n 1 (aP h)),(15,SV.int .i64 (↑n:Int)),(16,SV.int .i64 (↑i:Int))],store:=[(0,some (SB.cells 245 [SV.int .i64 cell,SV.int .i64 cols,SV.int .i64 rows,SV.int .i64 cx,SV.int .i64 cy,SV.ro n 1 (aP h),SV.ro ng 1 (aP g)]))],nxt:=1,dirty:=[],nt:=75}) (Br (decide (IntKind.i64.wrap ((↑i:Int)+w)<(↑n:Int))) (Br (decide (0<=IntKind.i64.wrap ((↑i:Int)+w))&&decide (IntKind.i64.wrap ((↑i:Int)+w)<(↑n:Int))) (Br (!!eY cell (IntKind.i64.wrap (h (IntKind.i64.wrap ((↑i:Int)+w)).toNat - h (↑i:Int).toNat))) (K Ex.ret {tmps:=[(0,SV.ptr 0 0),(2,SV.bool false),(3,SV.int .i64 w),(14,SV.ro n 1 (aP h)),(15,SV.int .i64 (↑n:Int)),(16,SV.int .i64 (↑i:Int))],store:=[(0,some (SB.cells 245 [SV.int .i64 cell,SV.int .i64 cols,SV.int .i64 rows,SV.int .i64 cx,SV.int .i64 cy,SV.ro n 1 (aP h),SV.ro ng 1 (aP g)]))],nxt:=1,dirty:=[],nt:=75}) (K Ex.normal {tmps:=[(0,SV.ptr 0 0),(2,SV.bool false),(3,SV.int .i64 w),(14,SV.ro n 1 (aP h)),(15,SV.int .i64 (↑n:Int)),(16,SV.int .i64 (IntKind.i64.wrap ((↑i:Int)+1)))],store:=[(0,some (SB.cells 245 [SV.int .i64 cell,SV.int .i64 cols,SV.int .i64 rows,SV.int .i64 cx,SV.int .i64 cy,SV.ro n 1 (aP h),SV.ro ng 1 (aP g)]))],nxt:=1,dirty:=[],nt:=75})) (False)) (K Ex.normal {tmps:=[(0,SV.ptr 0 0),(2,SV.bool false),(3,SV.int .i64 w),(14,SV.ro n 1 (aP h)),(15,SV.int .i64 (↑n:Int)),(16,SV.int .i64 (IntKind.i64.wrap ((↑i:Int)+1)))],store:=[(0,some (SB.cells 245 [SV.int .i64 cell,SV.int .i64 cols,SV.int .i64 rows,SV.int .i64 cx,SV.int .i64 cy,SV.ro n 1 (aP h),SV.ro ng 1 (aP g)]))],nxt:=1,dirty:=[],nt:=75}))) (False)) (Br (decide (IntKind.i64.wrap ((↑i:Int)+w)<(↑n:Int))) (Br (decide (0<=IntKind.i64.wrap ((↑i:Int)+w))&&decide (IntKind.i64.wrap ((↑i:Int)+w)<(↑n:Int))) (Br (!!eY cell (IntKind.i64.wrap (h (IntKind.i64.wrap ((↑i:Int)+w)).toNat - h (↑i:Int).toNat))) (K Ex.ret {tmps:=[(0,SV.ptr 0 0),(2,SV.bool false),(3,SV.int .i64 w),(14,SV.ro n 1 (aP h)),(15,SV.int .i64 (↑n:Int)),(16,SV.int .i64 (↑i:Int))],store:=[(0,some (SB.cells 245 [SV.int .i64 cell,SV.int .i64 cols,SV.int .i64 rows,SV.int .i64 cx,SV.int .i64 cy,SV.ro n 1 (aP h),SV.ro ng 1 (aP g)]))],nxt:=1,dirty:=[],nt:=75}) (K Ex.normal {tmps:=[(0,SV.ptr 0 0),(2,SV.bool false),(3,SV.int .i64 w),(14,SV.ro n 1 (aP h)),(15,SV.int .i64 (↑n:Int)),(16,SV.int .i64 (IntKind.i64.wrap ((↑i:Int)+1)))],store:=[(0,some (SB.cells 245 [SV.int .i64 cell,SV.int .i64 cols,SV.int .i64 rows,SV.int .i64 cx,SV.int .i64 cy,SV.ro n 1 (aP h),SV.ro ng 1 (aP g)]))],nxt:=1,dirty:=[],nt:=75})) (False)) (K Ex.normal {tmps:=[(0,SV.ptr 0 0),(2,SV.bool false),(3,SV.int .i64 w),(14,SV.ro n 1 (aP h)),(15,SV.int .i64 (↑n:Int)),(16,SV.int .i64 (IntKind.i64.wrap ((↑i:Int)+1)))],store:=[(0,some (SB.cells 245 [SV.int .i64 cell,SV.int .i64 cols,SV.int .i64 rows,SV.int .i64 cx,SV.int .i64 cy,SV.ro n 1 (aP h),SV.ro ng 1 (aP g)]))],nxt:=1,dirty:=[],nt:=75}))) (False)) (False)) (K (Ex.exit 0) {tmps:=[(0,SV.ptr 0 0),(2,SV.bool false),(3,SV.int .i64 w),(14,SV.ro n 1 (aP h)),(15,SV.int .i64 (↑n:Int)),(16,SV.int .i64 (↑i:Int))],store:=[(0,some (SB.cells 245 [SV.int .i64 cell,SV.int .i64 cols,SV.int .i64 rows,SV.int .i64 cx,SV.int .i64 cy,SV.ro n 1 (aP h),SV.ro ng 1 (aP g)]))],nxt:=1,dirty:=[],nt:=75})):=by kernel_rfl
theorem aFV(cell cols rows cx cy:Int)(n:Nat)(h:Nat->Int)(ng:Nat)(g:Nat->Int)(w i:Int)(K:KC):aB PB (aA FU 1) Tryz.f179 NI 1 K .ret (NW cell cols rows cx cy n h ng g w i)=
 (K (SV.bool false) [some (SB.cells 245 [SV.int .i64 cell,SV.int .i64 cols,SV.int .i64 rows,SV.int .i64 cx,SV.int .i64 cy,SV.ro n 1 (aP h),SV.ro ng 1 (aP g)])] []):=by kernel_rfl
theorem YG(cell cols rows cx cy:Int)(n:Nat)(h:Nat->Int)(ng:Nat)(g:Nat->Int)(w i:Int)(K:KC):aB PB (aA FU 1) Tryz.f179 NI 1 K (.exit 0) (NW cell cols rows cx cy n h ng g w i)=
 (K (SV.bool true) [some (SB.cells 245 [SV.int .i64 cell,SV.int .i64 cols,SV.int .i64 rows,SV.int .i64 cx,SV.int .i64 cy,SV.ro n 1 (aP h),SV.ro ng 1 (aP g)])] []):=by kernel_rfl
theorem aKa(cell cols rows cx cy:Int)(n:Nat)(h:Nat->Int)(ng:Nat)(g:Nat->Int)(w R:Nat)(hw:cols+1=(w:Int))(hw1:1<=w)(hw2:w<=65)(hn:n=w*R)(hn':n<=1000000):
  aE Tryz.prog W0 [.ptr 0 0] [some (.cells 245 (DN cell cols rows cx cy n h ng g))] (.bool (!dO (kH h cell w n) n)) [some (.cells 245 (DN cell cols rows cx cy n h ng g))] []:=
 eF FU (fun _=>0) p7 2 (fun _ h=>nomatch h) fun _ _ K hK=>by
  have hK:=hK [] fun _ h=>nomatch h
  rw [aBg,hw,rW (by omega)]
  refine ⟨n+1,j8 (fun i:Nat=>NW cell cols rows cx cy n h ng g w i) n (fun i=> ∀j,j<i->kH h cell w n j=false) (fun i hi hI X hX=> ?_) (fun hI X=> ?_) (fun j hj=>absurd hj (dn j))⟩
  ·have hret:kH h cell w n i=true->gM X (aB PB (aA FU 1) Tryz.f179 NI 1 K) .ret (NW cell cols rows cx cy n h ng g w i):=fun hs=>by
    show aB PB (aA FU 1) Tryz.f179 NI 1 K .ret _
    rw [aFV]
    rw [show dO (kH h cell w n) n=true from iS.2 ⟨i,hi,hs⟩] at hK
    exact hK
   have hnext:kH h cell w n i=false->gM X (aB PB (aA FU 1) Tryz.f179 NI 1 K) .normal (NW cell cols rows cx cy n h ng g w (i+1:Nat)):=fun hs=>by
    refine hX fun j hj=> ?_
    rcases ia (Nat.le_of_lt_succ hj) with hj|rfl
    ·exact hI j hj
    ·exact hs
   have hend:(i+1)%w≠0->i+1<n:=fun h1=>by
    rcases ia (Nat.succ_le_of_lt hi) with h2|h2
    ·exact h2
    ·rw [show i+1=n from h2,hn,Nat.mul_mod_right] at h1
     exact absurd rfl h1
   rw [J6,aK (n:=n) hi (by omega),show (i:Int)+(w:Int)=((i+w:Nat):Int) by omega,rW (n:=i+w) (by omega),PX,ME,ME]
   simp only [am,fj]
   unfold kH at hret hnext
   refine Br.of (fun _=>Br.of (fun _=>Br.of (fun _=>Br.of (fun c1=>Br.of (fun _=>Br.of (fun c2=> ?_) fun c2=>Br.of (fun c3=>Br.of (fun _=>Br.of (fun c4=> ?_) fun c4=> ?_) fun c=> ?_) fun c3=> ?_) fun c=> ?_) fun c1=>Br.of (fun c3=>Br.of (fun _=>Br.of (fun c4=> ?_) fun c4=> ?_) fun c=> ?_) fun c3=> ?_) fun c=> ?_) fun c=> ?_) fun c=> ?_
   ·exact hret (by rw [c1,c2];rfl)
   ·exact hret (by rw [c4,show decide (i+w<n)=true from ao (by have:=aa c3;omega),ch,co])
   ·exact hnext (by rw [c2,c4,em,em];rfl)
   ·have:=aa c3
    simp only [bf,aw] at c;omega
   ·exact hnext (by rw [c2,show decide (i+w<n)=false from aj (by have:=ae c3;omega),em];rfl)
   ·have:=hend (aa c1)
    simp only [bf,aw] at c;omega
   ·exact hret (by rw [c4,show decide (i+w<n)=true from ao (by have:=aa c3;omega),ch,co])
   ·exact hnext (by rw [c1,c4,em];rfl)
   ·have:=aa c3
    simp only [bf,aw] at c;omega
   ·exact hnext (by rw [c1,show decide (i+w<n)=false from aj (by have:=ae c3;omega)];rfl)
   ·have:=ae c;omega
   ·simp only [bf,aw] at c;omega
   ·have:=ae c;omega
  ·rw [J6]
   refine Br.of (fun c=>absurd (aa c) (by omega)) fun _=> ?_
   show aB PB (aA FU 1) Tryz.f179 NI 1 K (.exit 0) (NW cell cols rows cx cy n h ng g w n)
   rw [YG]
   rw [show dO (kH h cell w n) n=false from e9.2 hI] at hK
   exact hK
def LA :List SV->List (Option SB)->KC->Prop
 | [.ptr 0 0],[some (.cells 245 [.int .i64 cell,.int .i64 cols,.int .i64 rows,.int .i64 cx,.int .i64 cy,.ro n 1 h,.ro ng 1 g])],K=>(sZ h/\sZ g)/\(∃R:Nat,(0<=cols/\cols<=64)/\n=(cols+1).toNat*R/\n<=1000000)/\
  K (.bool (!dO (kH (fun i=>px (h i)) cell (cols+1).toNat n) n)) [some (.cells 245 [.int .i64 cell,.int .i64 cols,.int .i64 rows,.int .i64 cx,.int .i64 cy,.ro n 1 h,.ro ng 1 g])] []
 |_,_,_=>False
theorem SA(xs:List SV)(σ:List (Option SB)):Sat Tryz.prog W0 xs σ (LA xs σ):=by
 intro K hK
 unfold LA at hK
 split at hK
 ·rename_i cell cols rows cx cy n h ng g
  obtain ⟨⟨e1,e2⟩,⟨R,h1,h2,h3⟩,hK⟩:=hK
  refine ⟨_,_,_,hK, ?_⟩
  have:=aKa cell cols rows cx cy n (fun i=>px (h i)) ng (fun i=>px (g i)) (cols+1).toNat R (by omega) (by omega) (by omega) h2 h3
  unfold DN at this
  rw [<- y9 e1,<- y9 e2] at this
  exact this
 ·exact hK.elim
noncomputable def p8 :bT Tryz.prog:=(p7).add W0 LA SA
theorem aGU(t:Trk)(K:KC):run p8 4 141 [.agg (aI t)] [] K=
 ((iX (aP t.h) (aP t.g) (fH t) (bA t.lx t.ly) (bN t) (fB t))/\(Br (!iD t.cols t.rows t.nh t.ng t.nk) (K (SV.tup [SV.nilp,SV.int .i64 42]) [] []) ((sZ (aP t.h))/\((t.nh<=1000000)/\((sZ (aP t.g))/\((t.ng<=1000000)/\(Br (decide (t.cell<17179869184)) (K (SV.tup [SV.nilp,SV.int .i64 40]) [] []) (Br (decide (t.cell>274877906944)) (K (SV.tup [SV.nilp,SV.int .i64 40]) [] []) (Br (!!(eY 140737488355328 t.cx||eY 140737488355328 t.cy)) (K (SV.tup [SV.nilp,SV.int .i64 40]) [] []) ((sZ (aP t.h))/\(Br (!!dO (fun (i:Nat)=>eY 2199023255552 (px (aP t.h i))) t.nh) (K (SV.tup [SV.nilp,SV.int .i64 40]) [] []) ((sZ (aP t.h)/\sZ (aP t.g))/\((∃(R:Nat),(0<=t.cols/\t.cols<=64)/\t.nh=(t.cols+1).toNat*R/\t.nh<=1000000)/\(Br (!!dO (kH (fun (i:Nat)=>px (aP t.h i)) t.cell (t.cols+1).toNat t.nh) t.nh) (K (SV.tup [SV.nilp,SV.int .i64 40]) [] []) ((sZ (aP t.g))/\(Br (decide (mD (fun (i:Nat)=>pN t.nk (px (aP t.g i))) t.ng 0>=0)) (K (SV.tup [SV.nilp,SV.int .i64 40]) [] []) ((LX (fH t))/\(Br (decide (mD (fun (i:Nat)=>xE (px (fH t i)) (py (fH t i))) t.nk 0>=0)) (K (SV.tup [SV.nilp,SV.int .i64 40]) [] []) (K (SV.tup [SV.ptr 0 0,SV.int .i64 0]) [some (SB.cells 245 [SV.int .i64 t.cell,SV.int .i64 t.cols,SV.int .i64 t.rows,SV.int .i64 t.cx,SV.int .i64 t.cy,SV.ro t.nh 1 (aP t.h),SV.ro t.ng 1 (aP t.g)])] []))))))))))))))))))):=by kernel_rfl
def SH(t:Trk)(K:KC):Prop:=
 Br (iQ t==0) (K (.tup [.ptr 0 0,.int .i64 0]) [some (.cells 245 [.int .i64 t.cell,.int .i64 t.cols,.int .i64 t.rows,.int .i64 t.cx,.int .i64 t.cy,.ro t.nh 1 (aP t.h),.ro t.ng 1 (aP t.g)])] []) (K (.tup [.nilp,.int .i64 (iQ t)]) [] [])
theorem aEU(t:Trk)(K:KC)(hK:SH t K):run p8 4 141 [.agg (aI t)] [] K:=by
 rw [aGU]
 refine ⟨fZ t, ?_⟩
 unfold SH iQ at hK
 refine Br.of (fun c=> ?_) fun c=> ?_
 ·rw [dg] at c
  rw [c] at hK
  exact hK
 ·rw [dr] at c
  rw [c] at hK
  obtain ⟨⟨h1,_,_⟩,_,_,h2,h3,h4⟩:=nQ c
  refine ⟨fun _=>rfl,by omega,fun _=>rfl,by omega, ?_⟩
  simp only [ar] at hK
  have bad:kD t=true->K (SV.tup [SV.nilp,SV.int .i64 40]) [] []:=fun h=>by rw [h] at hK;exact hK
  unfold kD at bad
  refine Br.of (fun c1=>bad (by rw [c1];rfl)) fun c1=>Br.of (fun c2=>bad (by rw [c2];exact co _)) fun c2=> ?_
  refine Br.of (fun c3=>bad (by rw [fj] at c3;rw [c3,gw,co,co])) fun c3=>⟨fun _=>rfl, ?_⟩
  rw [fj] at c3
  refine Br.of (fun c4=>bad ?_) fun c4=>⟨⟨fun _=>rfl,fun _=>rfl⟩,⟨(t.rows+1).toNat,by omega,h2,by omega⟩, ?_⟩
  ·rw [fj] at c4
   have c4':dO (fun i=>eY 2199023255552 (t.h i)) t.nh=true:=c4
   rw [c4',gw,co,co,co]
  rw [fj] at c4
  have c4':dO (fun i=>eY 2199023255552 (t.h i)) t.nh=false:=c4
  refine Br.of (fun c5=>bad ?_) fun c5=>⟨fun _=>rfl, ?_⟩
  ·rw [fj] at c5
   have c5':dO (kH t.h t.cell (t.cols+1).toNat t.nh) t.nh=true:=c5
   rw [c5',gw,co,co,co,co]
  rw [fj] at c5
  have c5':dO (kH t.h t.cell (t.cols+1).toNat t.nh) t.nh=false:=c5
  refine Br.of (fun c6=>bad ?_) fun c6=>⟨fun _=>rfl, ?_⟩
  ·have c6':dO (fun i=>pN t.nk (t.g i)) t.ng=true:=c6
   rw [c6',gw,co,co,co,co,co]
  have c6':dO (fun i=>pN t.nk (t.g i)) t.ng=false:=c6
  refine Br.of (fun c7=>bad ?_) fun c7=> ?_
  ·have c7':dO (fun i=>xE (t.kg i) (t.kd i)) t.nk=true:=c7
   rw [c7',co,co,co,co,co,co]
  have c7':dO (fun i=>xE (t.kg i) (t.kd i)) t.nk=false:=c7
  rw [show kD t=false by unfold kD;rw [c1,c2,c3,c4',c5',c6',c7'];rfl] at hK
  exact hK
def aEg :List SV->List (Option SB)->KC->Prop
 | [.agg [.int .i64 a0,.int .i64 a1,.int .i64 a2,.int .i64 a3,.int .i64 a4,.int .i64 a5,.ro nh 1 h,.ro ng 1 g,.ro nk 3 kg,.ro nl 2 l,.ro nr 1 rl,.ro nt 5 gt,.int .i64 sx,.int .i64 sy,.int .u32 hd,.int .i64 lp]],[],K=>iX h g kg l rl gt/\SH (mZ a0 a1 a2 a3 a4 a5 nh h ng g nk kg nl l nr rl nt gt sx sy hd lp) K
 |_,_,_=>False
theorem aEr(xs:List SV)(σ:List (Option SB)):Sat Tryz.prog 141 xs σ (aEg xs σ):=by
 intro K hK
 unfold aEg at hK
 split at hK
 ·rw [i5 hK.1]
  exact bS (env:=tab.env p8 (fun _=>0) (fun _=>false)) ⟨tab.htt,p8.ok⟩ tab.mixed (fun n=>aY n []) tab.hft 4 _ _ _ K (aEU _ K hK.2)
 ·exact hK.elim
end Go.Proofs.YtghnfjfkjhbgdaaGreatDoor
