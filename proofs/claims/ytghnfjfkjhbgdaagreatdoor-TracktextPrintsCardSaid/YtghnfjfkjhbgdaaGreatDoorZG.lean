import Derived.Test.YtghnfjfkjhbgdaaGreatDoorZF
namespace Go.Proofs.YtghnfjfkjhbgdaaGreatDoor
open Go.Se
set_option maxRecDepth 100000
def uaR :List (Nat×eI):=[(0,⟨[1,5,6],[],[],0,[]⟩)]
noncomputable abbrev uaE :Env:=fG uaR (fun _=>0) ob 2
noncomputable abbrev uaF :Func:=Tryz.f24
abbrev uaP :List Nat:=[1,1,0,1,0]
def uaS(n:Nat)(p:List (List Int))(s:ByteArray)(i:Int):St:=⟨[(1,.ro n 1 (aG p)),(5,.str s),(6,.int .i64 i)],[],0,[],23⟩
theorem aFu(w:ByteArray)(n:Nat)(p:List (List Int))(K:KC):cL uaR (fun _=>0) ob 3 24 [.str w,.ro n 1 (aG p)] [] K=
 (∃q_,aV uaE (aA uaR 0) uaF uaP 0 0 K q_ {tmps:=[(1,SV.ro n 1 (aG p)),(5,SV.str w),(6,SV.int .i64 0)],store:=[],nxt:=0,dirty:=[],nt:=23}):=by kernel_rfl
theorem OZ(n:Nat)(p:List (List Int))(s:ByteArray)(i:Nat)(K:Ex->St->Prop):aF uaE (aA uaR 0) uaF uaP 0 K (uaS n p s i)=
 (Br (decide ((↑i:Int)<(↑n:Int))) (Br (decide (0<=(↑i:Int))&&decide ((↑i:Int)<(↑n:Int))) (Br (decide (1+(bytesOf (p.getD (↑i:Int).toNat [])).size<9223372036854775808)) (Br (decide (s.size+((⟨#[32]⟩:ByteArray)++bytesOf (p.getD (↑i:Int).toNat [])).size<9223372036854775808)) (K Ex.normal {tmps:=[(1,SV.ro n 1 (aG p)),(5,SV.str (s++((⟨#[32]⟩:ByteArray)++bytesOf (p.getD (↑i:Int).toNat [])))),(6,SV.int .i64 (IntKind.i64.wrap ((↑i:Int)+1)))],store:=[],nxt:=0,dirty:=[],nt:=23}) (False)) (False)) (False)) (K (Ex.exit 0) {tmps:=[(1,SV.ro n 1 (aG p)),(5,SV.str s),(6,SV.int .i64 (↑i:Int))],store:=[],nxt:=0,dirty:=[],nt:=23})):=by kernel_rfl
theorem aCa(n:Nat)(p:List (List Int))(s:ByteArray)(i:Nat)(K:KC):aB uaE (aA uaR 0) uaF uaP 0 K (.exit 0) (uaS n p s i)=
 (Br (decide (s.size+1<9223372036854775808)) (K (SV.str (s++(⟨#[10]⟩:ByteArray))) [] []) (False)):=by kernel_rfl
def ubR :List (Nat×eI):=[(0,⟨[0,3,4],[0],[0,1,2,3,4],1,[(3,0)]⟩)]
noncomputable abbrev ubE :Env:=fG ubR (fun _=>0) ob 2
noncomputable abbrev unF :Func:=Tryz.f25
noncomputable abbrev uiF :Func:=Tryz.f29
noncomputable abbrev upF :Func:=Tryz.f26
def unS(n:Nat)(f:Nat->Int)(o:SV)(r:Option SB)(i:Int):St:=⟨[(0,.ro n 1 (aP f)),(3,o),(4,.int .i64 i)],[(0,r)],1,[0,1,2,3,4],20⟩
def upS(n:Nat)(x y:Nat->Int)(o:SV)(r:Option SB)(i:Int):St:=⟨[(0,.ro n 2 (bA x y)),(3,o),(4,.int .i64 i)],[(0,r)],1,[0,1,2,3,4],25⟩
theorem aEq(n:Nat)(f:Nat->Int)(K:KC):cL ubR (fun _=>0) ob 3 25 [.ro n 1 (aP f)] [] K=
 (∃q_,aV ubE (aA ubR 0) unF uaP 0 0 K q_ {tmps:=[(0,SV.ro n 1 (aP f)),(3,SV.nils),(4,SV.int .i64 0)],store:=[(0,none)],nxt:=1,dirty:=[0,1,2,3,4],nt:=20}):=by kernel_rfl
theorem aIA(n:Nat)(f:Nat->Int)(i:Nat)(K:Ex->St->Prop):aF ubE (aA ubR 0) unF uaP 0 K (unS n f .nils none i)=
 (Br (decide ((↑i:Int)<(↑n:Int))) (Br (decide (0<=(↑i:Int))&&decide ((↑i:Int)<(↑n:Int))) (K Ex.normal {tmps:=[(0,SV.ro n 1 (aP f)),(3,SV.own 0 0 1 1),(4,SV.int .i64 (IntKind.i64.wrap ((↑i:Int)+1)))],store:=[(0,some (SB.row 9 1 1 fun (i_1:Nat)=>cut [SV.str (bytesOf (aC (f (↑i:Int).toNat)))] (i_1*1) 1))],nxt:=1,dirty:=[0,1,2,3,4],nt:=20}) (False)) (K (Ex.exit 0) {tmps:=[(0,SV.ro n 1 (aP f)),(3,SV.nils),(4,SV.int .i64 (↑i:Int))],store:=[(0,none)],nxt:=1,dirty:=[0,1,2,3,4],nt:=20})):=by kernel_rfl
theorem aIG(n:Nat)(f:Nat->Int)(m:Nat)(g:Nat->List SV)(i:Nat)(K:Ex->St->Prop):aF ubE (aA ubR 0) unF uaP 0 K (unS n f (.own 0 0 1 m) (some (.row 9 1 m g)) i)=
 (Br (decide ((↑i:Int)<(↑n:Int))) (Br (decide (0<=(↑i:Int))&&decide ((↑i:Int)<(↑n:Int))) (Br (decide ((m+1)*16<=1099511627776)&&decide (m+1<9223372036854775808)&&decide (m=m)) (K Ex.normal {tmps:=[(0,SV.ro n 1 (aP f)),(3,SV.own 0 0 1 (m+1)),(4,SV.int .i64 (IntKind.i64.wrap ((↑i:Int)+1)))],store:=[(0,some (SB.row 9 1 (m+1) (bK m [SV.str (bytesOf (aC (f (↑i:Int).toNat)))] g)))],nxt:=1,dirty:=[0,1,2,3,4],nt:=20}) (False)) (False)) (K (Ex.exit 0) {tmps:=[(0,SV.ro n 1 (aP f)),(3,SV.own 0 0 1 m),(4,SV.int .i64 (↑i:Int))],store:=[(0,some (SB.row 9 1 m g))],nxt:=1,dirty:=[0,1,2,3,4],nt:=20})):=by kernel_rfl
theorem aLK(n:Nat)(f:Nat->Int)(i:Nat)(K:KC):aB ubE (aA ubR 0) unF uaP 0 K (.exit 0) (unS n f .nils none i)=
 (K SV.nils [] []):=by kernel_rfl
theorem aMd(n:Nat)(f:Nat->Int)(m:Nat)(g:Nat->List SV)(i:Nat)(K:KC):aB ubE (aA ubR 0) unF uaP 0 K (.exit 0) (unS n f (.own 0 0 1 m) (some (.row 9 1 m g)) i)=
 (K (SV.own 0 0 1 m) [some (SB.row 9 1 m g)] []):=by kernel_rfl
theorem aDg(n:Nat)(f:Nat->Int)(K:KC):cL ubR (fun _=>0) ob 3 29 [.ro n 1 (aP f)] [] K=
 (∃q_,aV ubE (aA ubR 0) uiF uaP 0 0 K q_ {tmps:=[(0,SV.ro n 1 (aP f)),(3,SV.nils),(4,SV.int .i64 0)],store:=[(0,none)],nxt:=1,dirty:=[0,1,2,3,4],nt:=20}):=by kernel_rfl
theorem aIB(n:Nat)(f:Nat->Int)(i:Nat)(K:Ex->St->Prop):aF ubE (aA ubR 0) uiF uaP 0 K (unS n f .nils none i)=
 (Br (decide ((↑i:Int)<(↑n:Int))) (Br (decide (0<=(↑i:Int))&&decide ((↑i:Int)<(↑n:Int))) (K Ex.normal {tmps:=[(0,SV.ro n 1 (aP f)),(3,SV.own 0 0 1 1),(4,SV.int .i64 (IntKind.i64.wrap ((↑i:Int)+1)))],store:=[(0,some (SB.row 9 1 1 fun (i_1:Nat)=>cut [SV.str (bytesOf (aH (f (↑i:Int).toNat)))] (i_1*1) 1))],nxt:=1,dirty:=[0,1,2,3,4],nt:=20}) (False)) (K (Ex.exit 0) {tmps:=[(0,SV.ro n 1 (aP f)),(3,SV.nils),(4,SV.int .i64 (↑i:Int))],store:=[(0,none)],nxt:=1,dirty:=[0,1,2,3,4],nt:=20})):=by kernel_rfl
theorem aH0(n:Nat)(f:Nat->Int)(m:Nat)(g:Nat->List SV)(i:Nat)(K:Ex->St->Prop):aF ubE (aA ubR 0) uiF uaP 0 K (unS n f (.own 0 0 1 m) (some (.row 9 1 m g)) i)=
 (Br (decide ((↑i:Int)<(↑n:Int))) (Br (decide (0<=(↑i:Int))&&decide ((↑i:Int)<(↑n:Int))) (Br (decide ((m+1)*16<=1099511627776)&&decide (m+1<9223372036854775808)&&decide (m=m)) (K Ex.normal {tmps:=[(0,SV.ro n 1 (aP f)),(3,SV.own 0 0 1 (m+1)),(4,SV.int .i64 (IntKind.i64.wrap ((↑i:Int)+1)))],store:=[(0,some (SB.row 9 1 (m+1) (bK m [SV.str (bytesOf (aH (f (↑i:Int).toNat)))] g)))],nxt:=1,dirty:=[0,1,2,3,4],nt:=20}) (False)) (False)) (K (Ex.exit 0) {tmps:=[(0,SV.ro n 1 (aP f)),(3,SV.own 0 0 1 m),(4,SV.int .i64 (↑i:Int))],store:=[(0,some (SB.row 9 1 m g))],nxt:=1,dirty:=[0,1,2,3,4],nt:=20})):=by kernel_rfl
theorem aLV(n:Nat)(f:Nat->Int)(i:Nat)(K:KC):aB ubE (aA ubR 0) uiF uaP 0 K (.exit 0) (unS n f .nils none i)=
 (K SV.nils [] []):=by kernel_rfl
theorem aL9(n:Nat)(f:Nat->Int)(m:Nat)(g:Nat->List SV)(i:Nat)(K:KC):aB ubE (aA ubR 0) uiF uaP 0 K (.exit 0) (unS n f (.own 0 0 1 m) (some (.row 9 1 m g)) i)=
 (K (SV.own 0 0 1 m) [some (SB.row 9 1 m g)] []):=by kernel_rfl
theorem aDR(n:Nat)(x y:Nat->Int)(K:KC):cL ubR (fun _=>0) ob 3 26 [.ro n 2 (bA x y)] [] K=
 (∃q_,aV ubE (aA ubR 0) upF uaP 0 0 K q_ {tmps:=[(0,SV.ro n 2 (bA x y)),(3,SV.nils),(4,SV.int .i64 0)],store:=[(0,none)],nxt:=1,dirty:=[0,1,2,3,4],nt:=25}):=by kernel_rfl
theorem aIt(n:Nat)(x y:Nat->Int)(i:Nat)(K:Ex->St->Prop):aF ubE (aA ubR 0) upF uaP 0 K (upS n x y .nils none i)=
 (Br (decide ((↑i:Int)<(↑n:Int))) (Br (decide (0<=(↑i:Int))&&decide ((↑i:Int)<(↑n:Int))) (Br (decide (0<=(↑i:Int))&&decide ((↑i:Int)<(↑n:Int))) (K Ex.normal {tmps:=[(0,SV.ro n 2 (bA x y)),(3,SV.own 0 0 1 2),(4,SV.int .i64 (IntKind.i64.wrap ((↑i:Int)+1)))],store:=[(0,some (SB.row 22 1 2 fun (i_1:Nat)=>cut [SV.int .i64 (x (↑i:Int).toNat),SV.int .i64 (y (↑i:Int).toNat)] (i_1*1) 1))],nxt:=1,dirty:=[0,1,2,3,4],nt:=25}) (False)) (False)) (K (Ex.exit 0) {tmps:=[(0,SV.ro n 2 (bA x y)),(3,SV.nils),(4,SV.int .i64 (↑i:Int))],store:=[(0,none)],nxt:=1,dirty:=[0,1,2,3,4],nt:=25})):=by kernel_rfl
theorem aH8(n:Nat)(x y:Nat->Int)(m:Nat)(g:Nat->List SV)(i:Nat)(K:Ex->St->Prop):aF ubE (aA ubR 0) upF uaP 0 K (upS n x y (.own 0 0 1 m) (some (.row 22 1 m g)) i)=
 (Br (decide ((i:Int)<(n:Int))) (Br (decide (0<=(i:Int))&&decide ((i:Int)<(n:Int))) (Br (decide (0<=(i:Int))&&decide ((i:Int)<(n:Int))) ((∀j:Nat,j<2->(cut [SV.int .i64 (x (i:Int).toNat),SV.int .i64 (y (i:Int).toNat)] (j*1) 1).length=1/\(cut [SV.int .i64 (x (i:Int).toNat),SV.int .i64 (y (i:Int).toNat)] (j*1) 1).all bE=true)/\
  Br ((true&&decide (m=m))&&(decide ((m+2)*8<=1099511627776)&&decide (m+2<9223372036854775808))) (K Ex.normal (upS n x y (.own 0 0 1 (m+2)) (some (.row 22 1 (m+2) (qM m g fun j=>cut [SV.int .i64 (x (i:Int).toNat),SV.int .i64 (y (i:Int).toNat)] (j*1) 1))) (IntKind.i64.wrap ((i:Int)+1)))) False) False) False)
  (K (Ex.exit 0) (upS n x y (.own 0 0 1 m) (some (.row 22 1 m g)) i))):=by kernel_rfl
theorem aL6(n:Nat)(x y:Nat->Int)(i:Nat)(K:KC):aB ubE (aA ubR 0) upF uaP 0 K (.exit 0) (upS n x y .nils none i)=
 (K SV.nils [] []):=by kernel_rfl
theorem aMn(n:Nat)(x y:Nat->Int)(m:Nat)(g:Nat->List SV)(i:Nat)(K:KC):aB ubE (aA ubR 0) upF uaP 0 K (.exit 0) (upS n x y (.own 0 0 1 m) (some (.row 22 1 m g)) i)=
 (K (SV.own 0 0 1 m) [some (SB.row 22 1 m g)] []):=by kernel_rfl
theorem aKZ(t:TypeId)(a:Int)(K:KC):kC 3 ob 3 25 [.arr 0 0 1 1] [some (.cells t [.int .i64 a])] K=
 (K (SV.own 1 0 1 1) [some (SB.cells t [SV.int .i64 a]),some (SB.lst 9 [SV.str (bytesOf (aC a))])] []):=by kernel_rfl
theorem aJB(t:TypeId)(a b:Int)(K:KC):kC 4 ob 3 25 [.arr 0 0 2 2] [some (.cells t [.int .i64 a,.int .i64 b])] K=
 (K (SV.own 1 0 1 2) [some (SB.cells t [SV.int .i64 a,SV.int .i64 b]),some (SB.lst 9 [SV.str (bytesOf (aC a)),SV.str (bytesOf (aC b))])] []):=by kernel_rfl
theorem aHf(a b:Int)(K:KC):kC 4 ob 3 25 [.own 0 0 1 2] [some (.row 22 1 2 (aU cV 0 [a,b]))] K=
 (K (SV.own 1 0 1 2) [some (SB.row 22 1 2 (aU cV 0 [a,b])),some (SB.lst 9 [SV.str (bytesOf (aC ([a,b].getD (0+Int.toNat 0) 0))),SV.str (bytesOf (aC ([a,b].getD (0+(IntKind.i64.wrap (0+1)).toNat) 0)))])] []):=by kernel_rfl
theorem aGe(a b c d:Int)(K:KC):kC 6 ob 3 25 [.own 0 0 1 4] [some (.row 22 1 4 (aU cV 0 [a,b,c,d]))] K=
 (K (SV.own 1 0 1 4) [some (SB.row 22 1 4 (aU cV 0 [a,b,c,d])),some (SB.lst 9 [SV.str (bytesOf (aC ([a,b,c,d].getD (0+Int.toNat 0) 0))),SV.str (bytesOf (aC ([a,b,c,d].getD (0+(IntKind.i64.wrap (0+1)).toNat) 0))),SV.str (bytesOf (aC ([a,b,c,d].getD (0+(IntKind.i64.wrap (IntKind.i64.wrap (0+1)+1)).toNat) 0))),SV.str (bytesOf (aC ([a,b,c,d].getD (0+(IntKind.i64.wrap (IntKind.i64.wrap (IntKind.i64.wrap (0+1)+1)+1)).toNat) 0)))])] []):=by kernel_rfl
theorem aJl(t:TypeId)(a:Int)(K:KC):kC 3 ob 3 29 [.arr 0 0 1 1] [some (.cells t [.int .i64 a])] K=
 (K (SV.own 1 0 1 1) [some (SB.cells t [SV.int .i64 a]),some (SB.lst 9 [SV.str (bytesOf (aH a))])] []):=by kernel_rfl
theorem aJN(t:TypeId)(a b:Int)(K:KC):kC 4 ob 3 29 [.arr 0 0 2 2] [some (.cells t [.int .i64 a,.int .i64 b])] K=
 (K (SV.own 1 0 1 2) [some (SB.cells t [SV.int .i64 a,SV.int .i64 b]),some (SB.lst 9 [SV.str (bytesOf (aH a)),SV.str (bytesOf (aH b))])] []):=by kernel_rfl
theorem aLp(t:TypeId)(a b:Int)(K:KC):kC 3 ob 3 26 [.arr 0 0 1 1] [some (.cells t [.int .i64 a,.int .i64 b])] K=
 (K (SV.own 1 0 1 2) [some (SB.cells t [SV.int .i64 a,SV.int .i64 b]),some (SB.lst 22 [SV.int .i64 a,SV.int .i64 b])] []):=by kernel_rfl
theorem aLw(t:TypeId)(a b c d:Int)(K:KC):kC 4 ob 3 26 [.arr 0 0 2 2] [some (.cells t [.int .i64 a,.int .i64 b,.int .i64 c,.int .i64 d])] K=
 (K (SV.own 1 0 1 4) [some (SB.cells t [SV.int .i64 a,SV.int .i64 b,SV.int .i64 c,SV.int .i64 d]),some (SB.lst 22 [SV.int .i64 a,SV.int .i64 b,SV.int .i64 c,SV.int .i64 d])] []):=by kernel_rfl
theorem aKz(w:List Int)(p:List (List Int))(ho:bO w p)(K:KC)(hK:K (.str (bytesOf (lnW w p))) [] []):cL uaR (fun _=>0) ob 3 24 [.str (bytesOf w),.ro p.length 1 (aG p)] [] K:=by
 have hlen:=ho.len
 have hge:=OP p
 unfold lnW at hlen
 simp only [au,gi] at hlen
 rw [aFu]
 refine ⟨p.length+1, ?_⟩
 show iter (aF uaE (aA uaR 0) uaF uaP 0) (aB uaE (aA uaR 0) uaF uaP 0 K) (p.length+1) (uaS p.length p (bytesOf w) ((0:Nat):Int))
 rw [show bytesOf w=bytesOf (w++eL (p.take 0)) by rw [List.take_zero];show _=bytesOf (w++[]);rw [cm]]
 refine j8 (fun i:Nat=>uaS p.length p (bytesOf (w++eL (p.take i))) (i:Int)) p.length (fun _=>True) (fun i hi _ X hX=> ?_) (fun _ X=> ?_) trivial
 ·have hX:=hX trivial
  have hat:=aEw hi
  rw [FV hi,<- bo,<- aKb] at hX
  rw [OZ,aK hi (by omega),am]
  refine Br.of (fun _=>Br.of (fun _=>Br.of (fun _=>Br.of (fun _=>hX) fun c=> ?_) fun c=> ?_) fun c=>eA hi c) fun c=>iI hi c
  ·have c:=ae c
   rw [show (⟨#[32]⟩:ByteArray)=bytesOf [32] from rfl,bQ,aM,aM,au,au] at c
   simp only [gi] at c;omega
  ·have c:=ae c
   rw [aM] at c;omega
 ·rw [OZ,gz]
  refine Br.of (fun c=>g7 c) fun _=> ?_
  show aB uaE (aA uaR 0) uaF uaP 0 K (.exit 0) (uaS p.length p (bytesOf (w++eL p)) (p.length:Nat))
  rw [aCa]
  refine Br.of (fun _=> ?_) fun c=>absurd (ae c) (by rw [aM,au];omega)
  rw [aKh];exact hK
theorem aHZ(w:List Int)(p:List (List Int))(ho:bO w p):aE Tryz.prog 24 [.str (bytesOf w),.ro p.length 1 (aG p)] [] (.str (bytesOf (lnW w p))) [] []:=
 eF uaR (fun _=>0) ob 3 (fun _ h=>by cases h) fun _ _ K hK=>aKz w p ho K (hK _ fun _ h=>h)
def aJV :List SV->List (Option SB)->KC->Prop
 | [.str s,.ro n 1 g],[],K=> ∃(w:List Int) (p:List (List Int)),((s=bytesOf w/\n=p.length/\g=aG p)/\bO w p)/\ ∀l:List Int,isT l (lnW w p)->K (.str (bytesOf l)) [] []
 | [.str s,.own 0 0 1 n],[some (.row 9 1 n' g)],K=> ∃(w:List Int) (p:List (List Int)),((s=bytesOf w/\n=p.length/\n'=n/\cU g p)/\bO w p)/\ ∀l:List Int,isT l (lnW w p)->K (.str (bytesOf l)) [none] [0]
 |_,_,_=>False
theorem aHh(xs:List SV)(σ:List (Option SB)):Sat Tryz.prog 24 xs σ (aJV xs σ):=by
 intro K hK
 unfold aJV at hK
 split at hK
 case h_3=>exact hK.elim
 ·obtain ⟨w,p,⟨⟨rfl,rfl,rfl⟩,ho⟩,hK⟩:=hK
  exact ⟨_,_,_,hK _ rfl,aHZ w p ho⟩
 ·obtain ⟨w,p,⟨⟨rfl,rfl,rfl,hg⟩,ho⟩,hK⟩:=hK
  exact ⟨_,_,_,hK _ rfl,CW (av _) (fun i hi=>⟨(hg i hi).trans (rV hi).symm,by rw [rV hi];rfl⟩) (aHZ w p ho)⟩
theorem aJ3(n:Nat)(f:Nat->Int)(hn:n<=1048576)(K:KC)(hK:lC 9 1 kQ (dX f 0 n) K):cL ubR (fun _=>0) ob 3 25 [.ro n 1 (aP f)] [] K:=by
 rw [aEq]
 refine ⟨n+1, ?_⟩
 show iter (aF ubE (aA ubR 0) unF uaP 0) (aB ubE (aA ubR 0) unF uaP 0 K) (n+1) (unS n f .nils none ((0:Nat):Int))
 refine qA (e:=9) (dX f 0) (fun o b i=>unS n f o b i) n rfl (fun i o b hi ht X hX=> ?_) fun o b ht X=> ?_
 ·have hl:=gP f 0 i
  rcases ht with ⟨h0,rfl,rfl⟩|⟨g,hne,rfl,rfl,hg⟩
  ·rw [aIA]
   refine Br.of (fun _=>Br.of (fun _=> ?_) fun c=>eA hi c) fun c=>iI hi c
   rw [aK hi (by omega)]
   exact hX _ _ (by rw [tV,h0];exact eT (by rw [am,bi];rfl) rfl)
  ·rw [aIG]
   refine Br.of (fun _=>Br.of (fun _=>Br.of (fun _=> ?_) fun c=>I7 (m:=(dX f 0 i).length) (by omega) c) fun c=>eA hi c) fun c=>iI hi c
   rw [aK hi (by omega)]
   exact hX _ _ (by rw [tV];exact fQ (by rw [am,bi];rfl) rfl hg)
 ·rcases ht with ⟨h0,rfl,rfl⟩|⟨g,hne,rfl,rfl,hg⟩
  ·rw [aIA]
   refine Br.of (fun c=>g7 c) fun _=> ?_
   show aB ubE (aA ubR 0) unF uaP 0 K (.exit 0) (unS n f .nils none n)
   rw [aLK];exact hK.1 h0
  ·rw [aIG]
   refine Br.of (fun c=>g7 c) fun _=> ?_
   show aB ubE (aA ubR 0) unF uaP 0 K (.exit 0) (unS n f (.own 0 0 1 _) (some (.row 9 1 _ g)) n)
   rw [aMd];exact hK.2 g hne hg
theorem aJI(n:Nat)(f:Nat->Int)(hn:n<=1048576):aE Tryz.prog 25 [.ro n 1 (aP f)] [] (.ro n 1 (aG (dX f 0 n))) [] []:=by
 have:=nI (d0:=[]) (R:=ubR) (u:=fun _=>0) (B:=ob) (n:=3) (k:=25) (xs:=[.ro n 1 (aP f)]) (e:=9) (f:=kQ) (L:=dX f 0 n) (fun _=>rfl) fun _ K hK=>aJ3 n f hn K hK
 rw [gP] at this;exact this
theorem aKC(n:Nat)(f:Nat->Int)(hn:n<=1048576)(K:KC)(hK:lC 9 1 kQ (eZ f 0 n) K):cL ubR (fun _=>0) ob 3 29 [.ro n 1 (aP f)] [] K:=by
 rw [aDg]
 refine ⟨n+1, ?_⟩
 show iter (aF ubE (aA ubR 0) uiF uaP 0) (aB ubE (aA ubR 0) uiF uaP 0 K) (n+1) (unS n f .nils none ((0:Nat):Int))
 refine qA (e:=9) (eZ f 0) (fun o b i=>unS n f o b i) n rfl (fun i o b hi ht X hX=> ?_) fun o b ht X=> ?_
 ·have hl:=gQ f 0 i
  rcases ht with ⟨h0,rfl,rfl⟩|⟨g,hne,rfl,rfl,hg⟩
  ·rw [aIB]
   refine Br.of (fun _=>Br.of (fun _=> ?_) fun c=>eA hi c) fun c=>iI hi c
   rw [aK hi (by omega)]
   exact hX _ _ (by rw [t7,h0];exact eT (by rw [am,bi];rfl) rfl)
  ·rw [aH0]
   refine Br.of (fun _=>Br.of (fun _=>Br.of (fun _=> ?_) fun c=>I7 (m:=(eZ f 0 i).length) (by omega) c) fun c=>eA hi c) fun c=>iI hi c
   rw [aK hi (by omega)]
   exact hX _ _ (by rw [t7];exact fQ (by rw [am,bi];rfl) rfl hg)
 ·rcases ht with ⟨h0,rfl,rfl⟩|⟨g,hne,rfl,rfl,hg⟩
  ·rw [aIB]
   refine Br.of (fun c=>g7 c) fun _=> ?_
   show aB ubE (aA ubR 0) uiF uaP 0 K (.exit 0) (unS n f .nils none n)
   rw [aLV];exact hK.1 h0
  ·rw [aH0]
   refine Br.of (fun c=>g7 c) fun _=> ?_
   show aB ubE (aA ubR 0) uiF uaP 0 K (.exit 0) (unS n f (.own 0 0 1 _) (some (.row 9 1 _ g)) n)
   rw [aL9];exact hK.2 g hne hg
theorem aKn(n:Nat)(f:Nat->Int)(hn:n<=1048576):aE Tryz.prog 29 [.ro n 1 (aP f)] [] (.ro n 1 (aG (eZ f 0 n))) [] []:=by
 have:=nI (d0:=[]) (R:=ubR) (u:=fun _=>0) (B:=ob) (n:=3) (k:=29) (xs:=[.ro n 1 (aP f)]) (e:=9) (f:=kQ) (L:=eZ f 0 n) (fun _=>rfl) fun _ K hK=>aKC n f hn K hK
 rw [gQ] at this;exact this
theorem aLb(n:Nat)(x y:Nat->Int)(hn:n<=1048576)(K:KC)(hK:lC 22 1 cV (xyL x y n) K):cL ubR (fun _=>0) ob 3 26 [.ro n 2 (bA x y)] [] K:=by
 rw [aDR]
 refine ⟨n+1, ?_⟩
 show iter (aF ubE (aA ubR 0) upF uaP 0) (aB ubE (aA ubR 0) upF uaP 0 K) (n+1) (upS n x y .nils none ((0:Nat):Int))
 refine H3 (e:=22) (st:=1) (id:=0) (f:=cV) (xyL x y) (fun o b i=>upS n x y o b i) n rfl (fun i o b hi ht X hX=> ?_) fun o b ht X=> ?_
 ·have hl:=C8 x y i
  rcases ht with ⟨h0,rfl,rfl⟩|⟨g,hne,rfl,rfl,hg⟩
  ·rw [aIt]
   refine Br.of (fun _=>Br.of (fun _=> ?_) fun c=>eA hi c) fun c=>iI hi c
   rw [aK hi (by omega),am]
   refine Br.of (fun _=> ?_) fun c=>eA hi c
   exact hX _ _ (by
    show bU _ 1 0 cV (xyL x y i++[x i,y i]) _ _
    rw [h0]
    exact .inr ⟨_,by simp,rfl,rfl,fun j hj=>by match j,hj with|0,_=>rfl|1,_=>rfl⟩)
  ·rw [aH8]
   refine Br.of (fun _=>Br.of (fun _=> ?_) fun c=>eA hi c) fun c=>iI hi c
   rw [aK hi (by omega),am]
   refine Br.of (fun _=>⟨fun j hj=>by match j,hj with|0,_=>exact ⟨rfl,rfl⟩|1,_=>exact ⟨rfl,rfl⟩,Br.of (fun _=> ?_) fun c=>absurd c (by simp;omega)⟩) fun c=>eA hi c
   exact hX _ _ (GK (L:=xyL x y i) (p:=[x i,y i]) (by simp) rfl rfl hg fun j hj=>by match j,hj with|0,_=>rfl|1,_=>rfl)
 ·rcases ht with ⟨h0,rfl,rfl⟩|⟨g,hne,rfl,rfl,hg⟩
  ·rw [aIt]
   refine Br.of (fun c=>g7 c) fun _=> ?_
   show aB ubE (aA ubR 0) upF uaP 0 K (.exit 0) (upS n x y .nils none n)
   rw [aL6];exact hK.1 h0
  ·rw [aH8]
   refine Br.of (fun c=>g7 c) fun _=> ?_
   show aB ubE (aA ubR 0) upF uaP 0 K (.exit 0) (upS n x y (.own 0 0 1 _) (some (.row 22 1 _ g)) n)
   rw [aMn];exact hK.2 g hne hg
theorem aJM(n:Nat)(x y:Nat->Int)(hn:n<=1048576):aE Tryz.prog 26 [.ro n 2 (bA x y)] [] (.ro (2*n) 1 (aU cV 0 (xyL x y n))) [] []:=by
 have:=nI (d0:=0) (R:=ubR) (u:=fun _=>0) (B:=ob) (n:=3) (k:=26) (xs:=[.ro n 2 (bA x y)]) (e:=22) (f:=cV) (L:=xyL x y n) (fun _=>rfl) fun _ K hK=>aLb n x y hn K hK
 rw [C8] at this;exact this
theorem aJd(t:TypeId)(a:Int):aE Tryz.prog 25 [.arr 0 0 1 1] [some (.cells t [.int .i64 a])] (.own 1 0 1 1) [some (.cells t [.int .i64 a]),some (.row 9 1 1 (aG [aC a]))] []:=
 HO rfl (dT 3 ob 3 fun _ _ K hK=>by rw [aKZ];exact hK)
theorem aLc(t:TypeId)(a b:Int):aE Tryz.prog 25 [.arr 0 0 2 2] [some (.cells t [.int .i64 a,.int .i64 b])] (.own 1 0 1 2) [some (.cells t [.int .i64 a,.int .i64 b]),some (.row 9 1 2 (aG [aC a,aC b]))] []:=
 HO rfl (dT 4 ob 3 fun _ _ K hK=>by rw [aJB];exact hK)
theorem aGQ(a b:Int):aE Tryz.prog 25 [.own 0 0 1 2] [some (.row 22 1 2 (aU cV 0 [a,b]))] (.own 1 0 1 2) [some (.row 22 1 2 (aU cV 0 [a,b])),some (.row 9 1 2 (aG [aC a,aC b]))] []:=
 HO rfl (dT 4 ob 3 fun _ _ K hK=>by rw [aHf];exact hK)
theorem aG0(a b c d:Int):aE Tryz.prog 25 [.own 0 0 1 4] [some (.row 22 1 4 (aU cV 0 [a,b,c,d]))] (.own 1 0 1 4) [some (.row 22 1 4 (aU cV 0 [a,b,c,d])),some (.row 9 1 4 (aG [aC a,aC b,aC c,aC d]))] []:=
 HO rfl (dT 6 ob 3 fun _ _ K hK=>by rw [aGe];exact hK)
theorem aKN(t:TypeId)(a:Int):aE Tryz.prog 29 [.arr 0 0 1 1] [some (.cells t [.int .i64 a])] (.own 1 0 1 1) [some (.cells t [.int .i64 a]),some (.row 9 1 1 (aG [aH a]))] []:=
 HO rfl (dT 3 ob 3 fun _ _ K hK=>by rw [aJl];exact hK)
theorem aI1(t:TypeId)(a b:Int):aE Tryz.prog 29 [.arr 0 0 2 2] [some (.cells t [.int .i64 a,.int .i64 b])] (.own 1 0 1 2) [some (.cells t [.int .i64 a,.int .i64 b]),some (.row 9 1 2 (aG [aH a,aH b]))] []:=
 HO rfl (dT 4 ob 3 fun _ _ K hK=>by rw [aJN];exact hK)
theorem aMw{k:FuncId}{xs:List SV}{σ:List (Option SB)}{v:SV}{b:SB}{e:TypeId}{L:List Int}{n:Nat}(hn:n=L.length)(h:aE Tryz.prog k xs σ v [some b,some (.lst e (DF L))] []):aE Tryz.prog k xs σ v [some b,some (.row e 1 n (aU cV 0 L))] []:=
 vP (σ1:=[some b,some (.lst e (DF L))]) rfl (fun q=>by match q with|0=>simp|1=>simp|q+2=>simp) (fun q sb hq=>by
  match q,hq with
  |0,hq=>cases hq;exact ⟨_,rfl,fun _ _ _ _ h=>h⟩
  |1,hq=>cases hq;exact ⟨_,rfl,fun _ _ _ _ h=>aAf hn h⟩) h
theorem aLr(t:TypeId)(a b:Int):aE Tryz.prog 26 [.arr 0 0 1 1] [some (.cells t [.int .i64 a,.int .i64 b])] (.own 1 0 1 2) [some (.cells t [.int .i64 a,.int .i64 b]),some (.row 22 1 2 (aU cV 0 [a,b]))] []:=
 aMw rfl (dT 3 ob 3 fun _ _ K hK=>by rw [aLp];exact hK)
theorem aKu(t:TypeId)(a b c d:Int):aE Tryz.prog 26 [.arr 0 0 2 2] [some (.cells t [.int .i64 a,.int .i64 b,.int .i64 c,.int .i64 d])] (.own 1 0 1 4) [some (.cells t [.int .i64 a,.int .i64 b,.int .i64 c,.int .i64 d]),some (.row 22 1 4 (aU cV 0 [a,b,c,d]))] []:=
 aMw rfl (dT 4 ob 3 fun _ _ K hK=>by rw [aLw];exact hK)
def aDI(T:(Nat->Int)->Nat->List (List Int))(W:Int->List Int):List SV->List (Option SB)->KC->Prop
 | [.ro n 1 g],[],K=> ∃f:Nat->Int,(g=aP f/\n<=1048576)/\K (.ro n 1 (aG (T f n))) [] []
 | [.arr 0 0 1 1],[some (.cells t [.int .i64 a])],K=>K (.own 1 0 1 1) [some (.cells t [.int .i64 a]),some (.row 9 1 1 (aG [W a]))] []
 | [.arr 0 0 2 2],[some (.cells t [.int .i64 a,.int .i64 b])],K=>K (.own 1 0 1 2) [some (.cells t [.int .i64 a,.int .i64 b]),some (.row 9 1 2 (aG [W a,W b]))] []
 |_,_,_=>False
def aIY :List SV->List (Option SB)->KC->Prop
 | [.own 0 0 1 2],[some (.row 22 1 2 g)],K=> ∃a b:Int,g=aU cV 0 [a,b]/\K (.own 1 0 1 2) [some (.row 22 1 2 g),some (.row 9 1 2 (aG [aC a,aC b]))] []
 | [.own 0 0 1 4],[some (.row 22 1 4 g)],K=> ∃a b c d:Int,g=aU cV 0 [a,b,c,d]/\K (.own 1 0 1 4) [some (.row 22 1 4 g),some (.row 9 1 4 (aG [aC a,aC b,aC c,aC d]))] []
 |xs,σ,K=>aDI (fun f n=>dX f 0 n) aC xs σ K
theorem aFN(xs:List SV)(σ:List (Option SB)):Sat Tryz.prog 25 xs σ (aIY xs σ):=by
 intro K hK
 unfold aIY at hK
 split at hK
 ·obtain ⟨a,b,rfl,hK⟩:=hK;exact ⟨_,_,_,hK,aGQ a b⟩
 ·obtain ⟨a,b,c,d,rfl,hK⟩:=hK;exact ⟨_,_,_,hK,aG0 a b c d⟩
 unfold aDI at hK
 split at hK
 case h_4=>exact hK.elim
 ·obtain ⟨f,⟨rfl,h⟩,hK⟩:=hK;exact ⟨_,_,_,hK,aJI _ f h⟩
 ·exact ⟨_,_,_,hK,aJd _ _⟩
 ·exact ⟨_,_,_,hK,aLc _ _ _⟩
theorem aHm(xs:List SV)(σ:List (Option SB)):Sat Tryz.prog 29 xs σ (aDI (fun f n=>eZ f 0 n) aH xs σ):=by
 intro K hK
 unfold aDI at hK
 split at hK
 case h_4=>exact hK.elim
 ·obtain ⟨f,⟨rfl,h⟩,hK⟩:=hK;exact ⟨_,_,_,hK,aKn _ f h⟩
 ·exact ⟨_,_,_,hK,aKN _ _⟩
 ·exact ⟨_,_,_,hK,aI1 _ _ _⟩
def aKP :List SV->List (Option SB)->KC->Prop
 | [.ro n 2 g],[],K=> ∃x y:Nat->Int,(g=bA x y/\n<=1048576)/\K (.ro (2*n) 1 (aU cV 0 (xyL x y n))) [] []
 | [.arr 0 0 1 1],[some (.cells t [.int .i64 a,.int .i64 b])],K=>K (.own 1 0 1 2) [some (.cells t [.int .i64 a,.int .i64 b]),some (.row 22 1 2 (aU cV 0 [a,b]))] []
 | [.arr 0 0 2 2],[some (.cells t [.int .i64 a,.int .i64 b,.int .i64 c,.int .i64 d])],K=>K (.own 1 0 1 4) [some (.cells t [.int .i64 a,.int .i64 b,.int .i64 c,.int .i64 d]),some (.row 22 1 4 (aU cV 0 [a,b,c,d]))] []
 |_,_,_=>False
theorem aGm(xs:List SV)(σ:List (Option SB)):Sat Tryz.prog 26 xs σ (aKP xs σ):=by
 intro K hK
 unfold aKP at hK
 split at hK
 case h_4=>exact hK.elim
 ·obtain ⟨x,y,⟨rfl,h⟩,hK⟩:=hK;exact ⟨_,_,_,hK,aJM _ x y h⟩
 ·exact ⟨_,_,_,hK,aLr _ _ _⟩
 ·exact ⟨_,_,_,hK,aKu _ _ _ _ _⟩
noncomputable def of :bT Tryz.prog:=((((ob).add 24 aJV aHh).add 25 aIY aFN).add 29 (aDI (fun f n=>eZ f 0 n) aH) aHm).add 26 aKP aGm
def OE :List Nat:=[0,1,2,3,4,5,6,7,8,9,10,11,12,13,14,15,16]
def uwR :List (Nat×eI):=[(0,⟨[1,3,4],[0],OE,1,[]⟩),(2,⟨[1,3,5],[0],OE,1,[]⟩),(4,⟨[1,3,6],[0],OE,1,[]⟩)]
noncomputable abbrev uwE :Env:=fG uwR (fun _=>0) of 3
noncomputable abbrev uwF :Func:=Tryz.f23
abbrev YV :List Nat:=[1,1,0,1,0]
abbrev aAY :List Nat:=[1,1,1,0,1,0]
abbrev aAn :List Nat:=[1,1,1,1,0,1,0]
def uwS(t:Trk)(c:Nat)(s:ByteArray)(i:Int):St:=⟨[(1,.ptr 0 0),(3,.str s),(c,.int .i64 i)],[(0,some (.cells 34 (aI t)))],1,OE,109⟩
theorem aB7(t:Trk)(K:KC):cL uwR (fun _=>0) of 4 23 [.agg (aI t)] [] K=
 (∃(e400:List Int),∃(e399:List (List Int)),(((⟨#[114,97,116,101]⟩:ByteArray)=bytesOf e400/\1=e399.length/\1=1/\cU (aG [aH t.rate]) e399)/\bO e400 e399)/\(∀(l397:List Int),∀(_:isT l397 (lnW e400 e399)),∃(e395:List Int),∃(e394:List (List Int)),(((⟨#[99,101,108,108]⟩:ByteArray)=bytesOf e395/\1=e394.length/\1=1/\cU (aG [aC t.cell]) e394)/\bO e395 e394)/\(∀(l392:List Int),∀(_:isT l392 (lnW e395 e394)),Br (decide ((bytesOf l397).size+(bytesOf l392).size<9223372036854775808)) (∃(e389:List Int),∃(e388:List (List Int)),(((⟨#[115,105,122,101]⟩:ByteArray)=bytesOf e389/\2=e388.length/\2=2/\cU (aG [aH t.cols,aH t.rows]) e388)/\bO e389 e388)/\(∀(l386:List Int),∀(_:isT l386 (lnW e389 e388)),Br (decide ((bytesOf l397++bytesOf l392).size+(bytesOf l386).size<9223372036854775808)) (∃(e383:List Int),∃(e382:List (List Int)),(((⟨#[99,111,114,110,101,114]⟩:ByteArray)=bytesOf e383/\2=e382.length/\2=2/\cU (aG [aC t.cx,aC t.cy]) e382)/\bO e383 e382)/\(∀(l380:List Int),∀(_:isT l380 (lnW e383 e382)),Br (decide ((bytesOf l397++bytesOf l392++bytesOf l386).size+(bytesOf l380).size<9223372036854775808)) (∃q_,aV uwE (aA uwR 0) uwF YV 0 0 K q_ {tmps:=[(1,SV.ptr 0 0),(3,SV.str (bytesOf l397++bytesOf l392++bytesOf l386++bytesOf l380)),(4,SV.int .i64 0)],store:=[(0,some (SB.cells 34 (aI t)))],nxt:=1,dirty:=[0,1,2,3,4,5,6,7,8,9,10,11,12,13,14,15,16],nt:=109}) (False))) (False))) (False)))):=by kernel_rfl
theorem aId(t:Trk)(s:ByteArray)(i:Nat)(K:Ex->St->Prop):aF uwE (aA uwR 0) uwF YV 0 K (uwS t 4 s i)=
 (Br (decide ((↑i:Int)<=t.rows)) (Br (decide (0<=IntKind.i64.wrap ((↑i:Int)*IntKind.i64.wrap (t.cols+1)))&&(decide (IntKind.i64.wrap ((↑i:Int)*IntKind.i64.wrap (t.cols+1))<=IntKind.i64.wrap (IntKind.i64.wrap ((↑i:Int)+1)*IntKind.i64.wrap (t.cols+1)))&&decide (IntKind.i64.wrap (IntKind.i64.wrap ((↑i:Int)+1)*IntKind.i64.wrap (t.cols+1))<=(↑t.nh:Int)))) (∃(e398:Nat->Int),((fun (i_1:Nat)=>aP t.h (i_1+(IntKind.i64.wrap ((↑i:Int)*IntKind.i64.wrap (t.cols+1))).toNat))=aP e398/\(IntKind.i64.wrap (IntKind.i64.wrap ((↑i:Int)+1)*IntKind.i64.wrap (t.cols+1))).toNat - (IntKind.i64.wrap ((↑i:Int)*IntKind.i64.wrap (t.cols+1))).toNat<=1048576)/\(∃(e396:List Int),∃(e395:List (List Int)),(((⟨#[104,101,105,103,104,116,115]⟩:ByteArray)=bytesOf e396/\(IntKind.i64.wrap (IntKind.i64.wrap ((↑i:Int)+1)*IntKind.i64.wrap (t.cols+1))).toNat - (IntKind.i64.wrap ((↑i:Int)*IntKind.i64.wrap (t.cols+1))).toNat=e395.length/\aG ((fun (f:Nat->Int) (n:Nat)=>dX f 0 n) e398 ((IntKind.i64.wrap (IntKind.i64.wrap ((↑i:Int)+1)*IntKind.i64.wrap (t.cols+1))).toNat - (IntKind.i64.wrap ((↑i:Int)*IntKind.i64.wrap (t.cols+1))).toNat))=aG e395)/\bO e396 e395)/\(∀(l393:List Int),∀(_:isT l393 (lnW e396 e395)),Br (decide (s.size+(bytesOf l393).size<9223372036854775808)) (K Ex.normal {tmps:=[(1,SV.ptr 0 0),(3,SV.str (s++bytesOf l393)),(4,SV.int .i64 (IntKind.i64.wrap ((↑i:Int)+1)))],store:=[(0,some (SB.cells 34 (aI t)))],nxt:=1,dirty:=[0,1,2,3,4,5,6,7,8,9,10,11,12,13,14,15,16],nt:=109}) (False)))) (False)) (K (Ex.exit 0) {tmps:=[(1,SV.ptr 0 0),(3,SV.str s),(4,SV.int .i64 (↑i:Int))],store:=[(0,some (SB.cells 34 (aI t)))],nxt:=1,dirty:=[0,1,2,3,4,5,6,7,8,9,10,11,12,13,14,15,16],nt:=109})):=by kernel_rfl
theorem aIl(t:Trk)(s:ByteArray)(i:Nat)(K:Ex->St->Prop):aF uwE (aA uwR 0) uwF aAY 2 K (uwS t 5 s i)=
 (Br (decide ((↑i:Int)<t.rows)) (Br (decide (0<=IntKind.i64.wrap ((↑i:Int)*t.cols))&&(decide (IntKind.i64.wrap ((↑i:Int)*t.cols)<=IntKind.i64.wrap (IntKind.i64.wrap ((↑i:Int)+1)*t.cols))&&decide (IntKind.i64.wrap (IntKind.i64.wrap ((↑i:Int)+1)*t.cols)<=(↑t.ng:Int)))) (∃(e398:Nat->Int),((fun (i_1:Nat)=>aP t.g (i_1+(IntKind.i64.wrap ((↑i:Int)*t.cols)).toNat))=aP e398/\(IntKind.i64.wrap (IntKind.i64.wrap ((↑i:Int)+1)*t.cols)).toNat - (IntKind.i64.wrap ((↑i:Int)*t.cols)).toNat<=1048576)/\(∃(e396:List Int),∃(e395:List (List Int)),(((⟨#[103,114,111,117,110,100]⟩:ByteArray)=bytesOf e396/\(IntKind.i64.wrap (IntKind.i64.wrap ((↑i:Int)+1)*t.cols)).toNat - (IntKind.i64.wrap ((↑i:Int)*t.cols)).toNat=e395.length/\aG ((fun (f:Nat->Int) (n:Nat)=>eZ f 0 n) e398 ((IntKind.i64.wrap (IntKind.i64.wrap ((↑i:Int)+1)*t.cols)).toNat - (IntKind.i64.wrap ((↑i:Int)*t.cols)).toNat))=aG e395)/\bO e396 e395)/\(∀(l393:List Int),∀(_:isT l393 (lnW e396 e395)),Br (decide (s.size+(bytesOf l393).size<9223372036854775808)) (K Ex.normal {tmps:=[(1,SV.ptr 0 0),(3,SV.str (s++bytesOf l393)),(5,SV.int .i64 (IntKind.i64.wrap ((↑i:Int)+1)))],store:=[(0,some (SB.cells 34 (aI t)))],nxt:=1,dirty:=[0,1,2,3,4,5,6,7,8,9,10,11,12,13,14,15,16],nt:=109}) (False)))) (False)) (K (Ex.exit 2) {tmps:=[(1,SV.ptr 0 0),(3,SV.str s),(5,SV.int .i64 (↑i:Int))],store:=[(0,some (SB.cells 34 (aI t)))],nxt:=1,dirty:=[0,1,2,3,4,5,6,7,8,9,10,11,12,13,14,15,16],nt:=109})):=by kernel_rfl
theorem aH1(t:Trk)(s:ByteArray)(i:Nat)(K:Ex->St->Prop):aF uwE (aA uwR 0) uwF aAn 4 K (uwS t 6 s i)=
 (Br (decide ((↑i:Int)<(↑t.nk:Int))) (Br (decide (0<=(↑i:Int))&&decide ((↑i:Int)<(↑t.nk:Int))) (Br (t.ko (↑i:Int).toNat) (∃(e397:List Int),∃(e396:List (List Int)),(((⟨#[107,105,110,100]⟩:ByteArray)=bytesOf e397/\3=e396.length/\3=3/\cU (bK 2 [SV.str (⟨#[111,102,102]⟩:ByteArray)] (aG [aC (t.kg (↑i:Int).toNat),aC (t.kd (↑i:Int).toNat)])) e396)/\bO e397 e396)/\(∀(l394:List Int),∀(_:isT l394 (lnW e397 e396)),Br (decide (s.size+(bytesOf l394).size<9223372036854775808)) (K Ex.normal {tmps:=[(1,SV.ptr 0 0),(3,SV.str (s++bytesOf l394)),(6,SV.int .i64 (IntKind.i64.wrap ((↑i:Int)+1)))],store:=[(0,some (SB.cells 34 (aI t)))],nxt:=1,dirty:=[0,1,2,3,4,5,6,7,8,9,10,11,12,13,14,15,16],nt:=109}) (False))) (∃(e397:List Int),∃(e396:List (List Int)),(((⟨#[107,105,110,100]⟩:ByteArray)=bytesOf e397/\3=e396.length/\3=3/\cU (bK 2 [SV.str (⟨#[111,110]⟩:ByteArray)] (aG [aC (t.kg (↑i:Int).toNat),aC (t.kd (↑i:Int).toNat)])) e396)/\bO e397 e396)/\(∀(l394:List Int),∀(_:isT l394 (lnW e397 e396)),Br (decide (s.size+(bytesOf l394).size<9223372036854775808)) (K Ex.normal {tmps:=[(1,SV.ptr 0 0),(3,SV.str (s++bytesOf l394)),(6,SV.int .i64 (IntKind.i64.wrap ((↑i:Int)+1)))],store:=[(0,some (SB.cells 34 (aI t)))],nxt:=1,dirty:=[0,1,2,3,4,5,6,7,8,9,10,11,12,13,14,15,16],nt:=109}) (False)))) (False)) (K (Ex.exit 4) {tmps:=[(1,SV.ptr 0 0),(3,SV.str s),(6,SV.int .i64 (↑i:Int))],store:=[(0,some (SB.cells 34 (aI t)))],nxt:=1,dirty:=[0,1,2,3,4,5,6,7,8,9,10,11,12,13,14,15,16],nt:=109})):=by kernel_rfl
theorem aLE(t:Trk)(s:ByteArray)(i:Nat)(K:KC):aB uwE (aA uwR 0) uwF YV 0 K (.exit 0) (uwS t 4 s i)=
 (∃q_,aV uwE (aA uwR 0) uwF aAY 2 0 K q_ {tmps:=[(1,SV.ptr 0 0),(3,SV.str s),(5,SV.int .i64 0)],store:=[(0,some (SB.cells 34 (aI t)))],nxt:=1,dirty:=[0,1,2,3,4,5,6,7,8,9,10,11,12,13,14,15,16],nt:=109}):=by kernel_rfl
theorem aMi(t:Trk)(s:ByteArray)(i:Nat)(K:KC):aB uwE (aA uwR 0) uwF aAY 0 K (.exit 2) (uwS t 5 s i)=
 (∃q_,aV uwE (aA uwR 0) uwF aAn 4 0 K q_ {tmps:=[(1,SV.ptr 0 0),(3,SV.str s),(6,SV.int .i64 0)],store:=[(0,some (SB.cells 34 (aI t)))],nxt:=1,dirty:=[0,1,2,3,4,5,6,7,8,9,10,11,12,13,14,15,16],nt:=109}):=by kernel_rfl
theorem aMs(t:Trk)(s:ByteArray)(i:Nat)(K:KC):aB uwE (aA uwR 0) uwF aAn 0 K (.exit 4) (uwS t 6 s i)=
 (K (SV.str s) [] []):=by kernel_rfl
theorem aMV(t:Trk)(h:G7 t)(b0:List Int)(hb:b0.length<=80000000)(i:Nat)(K:KC)(hK: ∀l:List Int,gZ l b0 (bL (vW t) 0 t.nk)->K (.str (bytesOf l)) [] []):
  aB uwE (aA uwR 0) uwF aAY 0 K (.exit 2) (uwS t 5 (bytesOf b0) i):=by
 have hn:=h.nk
 rw [aMi]
 refine ⟨t.nk+1, ?_⟩
 show iter (aF uwE (aA uwR 0) uwF aAn 4) (aB uwE (aA uwR 0) uwF aAn 0 K) (t.nk+1) (uwS t 6 (bytesOf b0) ((0:Nat):Int))
 refine i6 (fun l i=>uwS t 6 (bytesOf l) i) iK (fun i=>[aC (t.kg i),aC (t.kd i),onW (t.ko i)]) t.nk b0 (by omega) (bD rfl) (fun i _=>⟨aJ (eB _) (aJ (eB _) (aJ (RG _) cN)),by simp⟩) (by omega) (fun i l hi hl X hX=> ?_) fun l hl hle X=> ?_
 ·have hok:cW [aC (t.kg i),aC (t.kd i),onW (t.ko i)]:=aJ (eB _) (aJ (eB _) (aJ (RG _) cN))
  rw [aH1,aK hi (by omega),am]
  refine Br.of (fun _=>Br.of (fun _=>Br.of (fun c=> ?_) fun c=> ?_) fun c=>eA hi c) fun c=>iI hi c
  ·rw [c] at hok hX
   have ho:=bP (w:=iK) (bD rfl) hok (de _) (by simp)
   exact ⟨iK,[aC (t.kg i),aC (t.kd i),onW true],⟨⟨rfl,rfl,rfl,aA4 (c:=onW true)⟩,ho⟩,fun l' h'=>kV (Q:=fun s=>X (uwS t 6 s ((i+1:Nat):Int))) h' ho (by omega) fun hg=>hX _ hg⟩
  ·rw [c] at hok hX
   have ho:=bP (w:=iK) (bD rfl) hok (de _) (by simp)
   exact ⟨iK,[aC (t.kg i),aC (t.kd i),onW false],⟨⟨rfl,rfl,rfl,aA4 (c:=onW false)⟩,ho⟩,fun l' h'=>kV (Q:=fun s=>X (uwS t 6 s ((i+1:Nat):Int))) h' ho (by omega) fun hg=>hX _ hg⟩
 ·rw [aH1]
  refine Br.of (fun c=>g7 c) fun _=> ?_
  show aB uwE (aA uwR 0) uwF aAn 0 K (.exit 4) (uwS t 6 (bytesOf l) (t.nk:Nat))
  rw [aMs];exact hK l hl
theorem aMS(t:Trk)(h:G7 t)(b0:List Int)(hb:b0.length<=70000000)(i:Nat)(K:KC)(hK: ∀l:List Int,gZ l b0 (bL (x7 t.g t.cols.toNat) 0 t.rows.toNat++bL (vW t) 0 t.nk)->K (.str (bytesOf l)) [] []):
  aB uwE (aA uwR 0) uwF YV 0 K (.exit 0) (uwS t 4 (bytesOf b0) i):=by
 obtain ⟨⟨a1,a2⟩,⟨a3,a4⟩,a5,a6,a7⟩:=h
 have hm:t.cols=((t.cols.toNat:Nat):Int):=by omega
 have hm1:t.cols.toNat<=64:=by omega
 have hm0:0<t.cols.toNat:=by omega
 rw [aLE]
 refine ⟨t.rows.toNat+1, ?_⟩
 show iter (aF uwE (aA uwR 0) uwF aAY 2) (aB uwE (aA uwR 0) uwF aAY 0 K) (t.rows.toNat+1) (uwS t 5 (bytesOf b0) ((0:Nat):Int))
 refine i6 (fun l i=>uwS t 5 (bytesOf l) i) iO (fun i=>eZ t.g (i*t.cols.toNat) t.cols.toNat) t.rows.toNat b0 (by omega) (bD rfl) (fun i _=>⟨vX _ _ _,by rw [gQ];omega⟩) (by omega) (fun i l hi hl X hX=> ?_) fun l hl hle X=> ?_
 ·have hle:(i+1)*t.cols.toNat<=t.rows.toNat*t.cols.toNat:=bj _ hi
  have hb2:t.rows.toNat*t.cols.toNat<=64*64:=Nat.mul_le_mul (by omega) hm1
  rw [bp,cj] at hle
  have w2:IntKind.i64.wrap ((i:Int)*t.cols)=((i*t.cols.toNat:Nat):Int):=by rw [hm,<- ig,fK];simp only [am];omega
  have w3:IntKind.i64.wrap (((i+1:Nat):Int)*t.cols)=((i*t.cols.toNat+t.cols.toNat:Nat):Int):=by
   rw [hm,<- ig,fK,bp,cj];simp only [am];omega
  have w4:IntKind.i64.wrap ((i:Int)+1)=((i+1:Nat):Int):=by rw [fK];omega
  have ho:bO iO (eZ t.g (i*t.cols.toNat) t.cols.toNat):=bP (bD rfl) (vX _ _ _) (by rw [gQ];omega) (by rw [gQ];omega)
  rw [aIl]
  simp only [w2,w4,w3,am,fo]
  refine Br.of (fun _=>Br.of (fun _=>⟨fun j=>t.g (j+i*t.cols.toNat),⟨rfl,by omega⟩,iO,eZ t.g (i*t.cols.toNat) t.cols.toNat,⟨⟨rfl,(gQ _ _ _).symm,by rw [HU]⟩,ho⟩,fun l' h'=>kV (Q:=fun s=>X (uwS t 5 s ((i+1:Nat):Int))) h' ho (by omega) fun hg=>hX _ hg⟩) fun c=>absurd c (by rw [ao (show (0:Int)<=((i*t.cols.toNat:Nat):Int) by omega),ao (show ((i*t.cols.toNat:Nat):Int)<=((i*t.cols.toNat+t.cols.toNat:Nat):Int) by omega),ao (show ((i*t.cols.toNat+t.cols.toNat:Nat):Int)<=(t.ng:Int) by rw [a6];omega)];decide)) fun c=>absurd (ae c) (by omega)
 ·rw [aIl]
  refine Br.of (fun c=>absurd (aa c) (by omega)) fun _=> ?_
  refine aMV t ⟨⟨a1,a2⟩,⟨a3,a4⟩,a5,a6,a7⟩ l (by omega) t.rows.toNat K fun l' hl'=>hK l' ?_
  unfold gZ at hl hl'|-
  rw [hl',hl,bo];rfl
theorem aJz(t:Trk)(h:G7 t)(K:KC)(hK:K (.str (bytesOf (mU t))) [] []):cL uwR (fun _=>0) of 4 23 [.agg (aI t)] [] K:=by
 obtain ⟨⟨a1,a2⟩,⟨a3,a4⟩,a5,a6,a7⟩:=h
 have k1:cW [aH t.rate]:=aJ (sI _) cN
 have k2:cW [aC t.cell]:=aJ (eB _) cN
 have k3:cW [aH t.cols,aH t.rows]:=aJ (sI _) (aJ (sI _) cN)
 have k4:cW [aC t.cx,aC t.cy]:=aJ (eB _) (aJ (eB _) cN)
 have o1:bO oE [aH t.rate]:=bP (bD rfl) k1 (de _) (by simp)
 have o2:bO n9 [aC t.cell]:=bP (bD rfl) k2 (de _) (by simp)
 have o3:bO lT [aH t.cols,aH t.rows]:=bP (bD rfl) k3 (de _) (by simp)
 have o4:bO iG [aC t.cx,aC t.cy]:=bP (bD rfl) k4 (de _) (by simp)
 have e1:=gH (w:=oE) k1
 have e2:=gH (w:=n9) k2
 have e3:=gH (w:=lT) k3
 have e4:=gH (w:=iG) k4
 rw [show oE.length=4 from rfl] at e1
 rw [show n9.length=4 from rfl] at e2
 rw [show lT.length=4 from rfl] at e3
 rw [show iG.length=6 from rfl] at e4
 simp only [az,bw] at e1 e2 e3 e4
 have hm:t.cols+1=(((t.cols+1).toNat:Nat):Int):=by omega
 have hm1:(t.cols+1).toNat<=65:=by omega
 have hm0:0<(t.cols+1).toNat:=by omega
 have w1:IntKind.i64.wrap (t.cols+1)=(((t.cols+1).toNat:Nat):Int):=by rw [fK];omega
 rw [aB7]
 refine ⟨oE,_,⟨⟨rfl,rfl,rfl,dR _⟩,o1⟩,fun l1 g1=>⟨n9,_,⟨⟨rfl,rfl,rfl,dR _⟩,o2⟩,fun l2 g2=> ?_⟩⟩
 obtain rfl:l1=_:=g1
 obtain rfl:l2=_:=g2
 refine Br.of (fun _=>⟨lT,_,⟨⟨rfl,rfl,rfl,dR _⟩,o3⟩,fun l3 g3=> ?_⟩) fun c=>absurd (ae c) (by rw [aM,aM];omega)
 obtain rfl:l3=_:=g3
 refine Br.of (fun _=>⟨iG,_,⟨⟨rfl,rfl,rfl,dR _⟩,o4⟩,fun l4 g4=> ?_⟩) fun c=>absurd (ae c) (by rw [bQ,aM,aM,au];omega)
 obtain rfl:l4=_:=g4
 refine Br.of (fun _=>⟨(t.rows+1).toNat+1, ?_⟩) fun c=>absurd (ae c) (by rw [bQ,bQ,aM,aM,au,au];omega)
 rw [bQ,bQ,bQ]
 generalize hb0:lnW oE [aH t.rate]++lnW n9 [aC t.cell]++lnW lT [aH t.cols,aH t.rows]++lnW iG [aC t.cx,aC t.cy]=b0
 have hbl:b0.length<=2000:=by rw [<- hb0];simp only [au];omega
 show iter (aF uwE (aA uwR 0) uwF YV 0) (aB uwE (aA uwR 0) uwF YV 0 K) ((t.rows+1).toNat+1) (uwS t 4 (bytesOf b0) ((0:Nat):Int))
 refine i6 (fun l i=>uwS t 4 (bytesOf l) i) gR (fun i=>dX t.h (i*(t.cols+1).toNat) (t.cols+1).toNat) (t.rows+1).toNat b0 (by omega) (bD rfl) (fun i _=>⟨vV _ _ _,by rw [gP];omega⟩) (by omega) (fun i l hi hl X hX=> ?_) fun l hl hle X=> ?_
 ·have hle:(i+1)*(t.cols+1).toNat<=(t.rows+1).toNat*(t.cols+1).toNat:=bj _ hi
  have hb2:(t.rows+1).toNat*(t.cols+1).toNat<=65*65:=Nat.mul_le_mul (by omega) hm1
  rw [bp,cj] at hle
  have w4:IntKind.i64.wrap ((i:Int)+1)=((i+1:Nat):Int):=by rw [fK];omega
  have w2:IntKind.i64.wrap ((i:Int)*(((t.cols+1).toNat:Nat):Int))=((i*(t.cols+1).toNat:Nat):Int):=by rw [<- ig,fK];omega
  have w3:IntKind.i64.wrap (((i+1:Nat):Int)*(((t.cols+1).toNat:Nat):Int))=((i*(t.cols+1).toNat+(t.cols+1).toNat:Nat):Int):=by
   rw [<- ig,fK,bp,cj];omega
  have ho:bO gR (dX t.h (i*(t.cols+1).toNat) (t.cols+1).toNat):=bP (bD rfl) (vV _ _ _) (by rw [gP];omega) (by rw [gP];omega)
  rw [aId]
  simp only [w1,w2,w4,w3,am,fo]
  refine Br.of (fun _=>Br.of (fun _=>⟨fun j=>t.h (j+i*(t.cols+1).toNat),⟨rfl,by omega⟩,gR,dX t.h (i*(t.cols+1).toNat) (t.cols+1).toNat,⟨⟨rfl,(gP _ _ _).symm,by rw [JV]⟩,ho⟩,fun l' h'=>kV (Q:=fun s=>X (uwS t 4 s ((i+1:Nat):Int))) h' ho (by omega) fun hg=>hX _ hg⟩) fun c=>absurd c (by rw [ao (show (0:Int)<=((i*(t.cols+1).toNat:Nat):Int) by omega),ao (show ((i*(t.cols+1).toNat:Nat):Int)<=((i*(t.cols+1).toNat+(t.cols+1).toNat:Nat):Int) by omega),ao (show ((i*(t.cols+1).toNat+(t.cols+1).toNat:Nat):Int)<=(t.nh:Int) by rw [a5];omega)];decide)) fun c=>absurd (ae c) (by omega)
 ·rw [aId]
  refine Br.of (fun c=>absurd (aa c) (by omega)) fun _=> ?_
  refine aMS t ⟨⟨a1,a2⟩,⟨a3,a4⟩,a5,a6,a7⟩ l (by omega) (t.rows+1).toNat K fun l' hl'=> ?_
  have:l'=mU t:=by
   unfold gZ at hl hl'
   rw [hl',hl,<- hb0]
   show _=lnW oE [aH t.rate]++lnW n9 [aC t.cell]++lnW lT [aH t.cols,aH t.rows]++lnW iG [aC t.cx,aC t.cy]++bL (zY t.h (t.cols+1).toNat) 0 (t.rows+1).toNat++bL (x7 t.g t.cols.toNat) 0 t.rows.toNat++bL (vW t) 0 t.nk
   simp only [bo];rfl
  rw [this];exact hK
def aKI :List SV->List (Option SB)->KC->Prop
 | [.agg cs],[],K=> ∃t:Trk,(cs=aI t/\G7 t)/\ ∀l:List Int,isT l (mU t)->K (.str (bytesOf l)) [] []
 |_,_,_=>False
theorem aHt(xs:List SV)(σ:List (Option SB)):Sat Tryz.prog 23 xs σ (aKI xs σ):=by
 intro K hK
 unfold aKI at hK
 split at hK
 case h_2=>exact hK.elim
 obtain ⟨t,⟨rfl,h⟩,hK⟩:=hK
 exact ⟨_,_,_,hK _ rfl,eF uwR (fun _=>0) of 4 (fun _ h=>by cases h) fun _ _ K hK=>aJz t h K (hK _ fun _ h=>h)⟩
noncomputable def og :bT Tryz.prog:=((of).add 23 aKI aHt).add 22 (Y8 cG) S2
def uvR :List (Nat×eI):=[(0,⟨[1,6,7],[0],OE,1,[]⟩),(2,⟨[1,6,8],[0],OE,1,[]⟩),(4,⟨[1,6,9],[0],OE,1,[]⟩)]
noncomputable abbrev uvE :Env:=fG uvR (fun _=>0) og 3
noncomputable abbrev uvF :Func:=Tryz.f9
abbrev YL :List Nat:=[1,1,1,1,0,1,0]
abbrev ZL :List Nat:=[1,1,1,1,1,0,1,0]
abbrev ZM :List Nat:=[1,1,1,1,1,1,0,1,0]
def uvS(t:Trk)(c:Nat)(s:ByteArray)(i:Int):St:=⟨[(1,.ptr 0 0),(6,.str s),(c,.int .i64 i)],[(0,some (.cells 34 (aI t)))],1,OE,103⟩
theorem aDB(t:Trk)(K:KC):cL uvR (fun _=>0) og 4 9 [.agg (aI t)] [] K=
 ((iX (aP t.h) (aP t.g) (fH t) (bA t.lx t.ly) (bN t) (fB t))/\((jW t.nr (bN t))/\(Br ((cG t).fst !=0) (K (SV.tup [SV.str (⟨#[]⟩:ByteArray),SV.int .i64 (cG t).fst]) [] []) (∃(e397:Trk),((aI t)=aI e397/\G7 e397)/\(∀(l395:List Int),∀(_:isT l395 (mU e397)),∃q_,aV uvE (aA uvR 0) uvF YL 0 0 K q_ {tmps:=[(1,SV.ptr 0 0),(6,SV.str (bytesOf l395)),(7,SV.int .i64 0)],store:=[(0,some (SB.cells 34 (aI t)))],nxt:=1,dirty:=[0,1,2,3,4,5,6,7,8,9,10,11,12,13,14,15,16],nt:=103}))))):=by kernel_rfl
theorem aIE(t:Trk)(s:ByteArray)(i:Nat)(K:Ex->St->Prop):aF uvE (aA uvR 0) uvF YL 0 K (uvS t 7 s i)=
 (Br (decide ((↑i:Int)<(↑t.nl:Int))) (Br (decide (0<=(↑i:Int))&&(decide ((↑i:Int)<=IntKind.i64.wrap ((↑i:Int)+1))&&decide (IntKind.i64.wrap ((↑i:Int)+1)<=(↑t.nl:Int)))) (∃(e398:Nat->Int),∃(e397:Nat->Int),((fun (i_1:Nat)=>bA t.lx t.ly (i_1+(↑i:Int).toNat))=bA e398 e397/\(IntKind.i64.wrap ((↑i:Int)+1)).toNat - (↑i:Int).toNat<=1048576)/\(∃(e395:Nat->Int),(aU cV 0 (xyL e398 e397 ((IntKind.i64.wrap ((↑i:Int)+1)).toNat - (↑i:Int).toNat))=aP e395/\2*((IntKind.i64.wrap ((↑i:Int)+1)).toNat - (↑i:Int).toNat)<=1048576)/\(∃(e393:List Int),∃(e392:List (List Int)),(((⟨#[112,111,105,110,116]⟩:ByteArray)=bytesOf e393/\2*((IntKind.i64.wrap ((↑i:Int)+1)).toNat - (↑i:Int).toNat)=e392.length/\aG ((fun (f:Nat->Int) (n:Nat)=>dX f 0 n) e395 (2*((IntKind.i64.wrap ((↑i:Int)+1)).toNat - (↑i:Int).toNat)))=aG e392)/\bO e393 e392)/\(∀(l390:List Int),∀(_:isT l390 (lnW e393 e392)),Br (decide (s.size+(bytesOf l390).size<9223372036854775808)) (K Ex.normal {tmps:=[(1,SV.ptr 0 0),(6,SV.str (s++bytesOf l390)),(7,SV.int .i64 (IntKind.i64.wrap ((↑i:Int)+1)))],store:=[(0,some (SB.cells 34 (aI t)))],nxt:=1,dirty:=[0,1,2,3,4,5,6,7,8,9,10,11,12,13,14,15,16],nt:=103}) (False))))) (False)) (K (Ex.exit 0) {tmps:=[(1,SV.ptr 0 0),(6,SV.str s),(7,SV.int .i64 (↑i:Int))],store:=[(0,some (SB.cells 34 (aI t)))],nxt:=1,dirty:=[0,1,2,3,4,5,6,7,8,9,10,11,12,13,14,15,16],nt:=103})):=by kernel_rfl
theorem aIu(t:Trk)(s:ByteArray)(i:Nat)(K:Ex->St->Prop):aF uvE (aA uvR 0) uvF ZL 2 K (uvS t 8 s i)=
 (Br (decide ((↑i:Int)<(↑t.nr:Int))) (Br (decide (0<=(↑i:Int))&&decide ((↑i:Int)<(↑t.nr:Int))) (∃(e398:Nat->Int),∃(e397:Nat->Int),(bA (t.rx (↑i:Int).toNat) (t.ry (↑i:Int).toNat)=bA e398 e397/\t.rn (↑i:Int).toNat<=1048576)/\(∃(e395:Nat->Int),(aU cV 0 (xyL e398 e397 (t.rn (↑i:Int).toNat))=aP e395/\2*t.rn (↑i:Int).toNat<=1048576)/\(∃(e393:List Int),∃(e392:List (List Int)),(((⟨#[114,97,105,108]⟩:ByteArray)=bytesOf e393/\2*t.rn (↑i:Int).toNat=e392.length/\aG ((fun (f:Nat->Int) (n:Nat)=>dX f 0 n) e395 (2*t.rn (↑i:Int).toNat))=aG e392)/\bO e393 e392)/\(∀(l390:List Int),∀(_:isT l390 (lnW e393 e392)),Br (decide (s.size+(bytesOf l390).size<9223372036854775808)) (K Ex.normal {tmps:=[(1,SV.ptr 0 0),(6,SV.str (s++bytesOf l390)),(8,SV.int .i64 (IntKind.i64.wrap ((↑i:Int)+1)))],store:=[(0,some (SB.cells 34 (aI t)))],nxt:=1,dirty:=[0,1,2,3,4,5,6,7,8,9,10,11,12,13,14,15,16],nt:=103}) (False))))) (False)) (K (Ex.exit 2) {tmps:=[(1,SV.ptr 0 0),(6,SV.str s),(8,SV.int .i64 (↑i:Int))],store:=[(0,some (SB.cells 34 (aI t)))],nxt:=1,dirty:=[0,1,2,3,4,5,6,7,8,9,10,11,12,13,14,15,16],nt:=103})):=by kernel_rfl
theorem aH3(t:Trk)(s:ByteArray)(i:Nat)(K:Ex->St->Prop):aF uvE (aA uvR 0) uvF ZM 4 K (uvS t 9 s i)=
 (Br (decide ((↑i:Int)<(↑t.nt:Int))) (Br (decide (0<=(↑i:Int))&&decide ((↑i:Int)<(↑t.nt:Int))) (∃(e398:Int),∃(e397:Int),∃(e396:Int),∃(e395:Int),(aU cV 0 [t.ax (↑i:Int).toNat,t.ay (↑i:Int).toNat,t.bx (↑i:Int).toNat,t.sb (↑i:Int).toNat]=aU cV 0 [e398,e397,e396,e395])/\(Br (t.sp (↑i:Int).toNat) (∃(e392:List Int),∃(e391:List (List Int)),(((⟨#[103,97,116,101]⟩:ByteArray)=bytesOf e392/\5=e391.length/\5=5/\cU (bK 4 [SV.str (⟨#[115,112,108,105,116]⟩:ByteArray)] (aG [aC e398,aC e397,aC e396,aC e395])) e391)/\bO e392 e391)/\(∀(l389:List Int),∀(_:isT l389 (lnW e392 e391)),Br (decide (s.size+(bytesOf l389).size<9223372036854775808)) (K Ex.normal {tmps:=[(1,SV.ptr 0 0),(6,SV.str (s++bytesOf l389)),(9,SV.int .i64 (IntKind.i64.wrap ((↑i:Int)+1)))],store:=[(0,some (SB.cells 34 (aI t)))],nxt:=1,dirty:=[0,1,2,3,4,5,6,7,8,9,10,11,12,13,14,15,16],nt:=103}) (False))) (∃(e392:List Int),∃(e391:List (List Int)),(((⟨#[103,97,116,101]⟩:ByteArray)=bytesOf e392/\5=e391.length/\5=5/\cU (bK 4 [SV.str (⟨#[112,108,97,105,110]⟩:ByteArray)] (aG [aC e398,aC e397,aC e396,aC e395])) e391)/\bO e392 e391)/\(∀(l389:List Int),∀(_:isT l389 (lnW e392 e391)),Br (decide (s.size+(bytesOf l389).size<9223372036854775808)) (K Ex.normal {tmps:=[(1,SV.ptr 0 0),(6,SV.str (s++bytesOf l389)),(9,SV.int .i64 (IntKind.i64.wrap ((↑i:Int)+1)))],store:=[(0,some (SB.cells 34 (aI t)))],nxt:=1,dirty:=[0,1,2,3,4,5,6,7,8,9,10,11,12,13,14,15,16],nt:=103}) (False))))) (False)) (K (Ex.exit 4) {tmps:=[(1,SV.ptr 0 0),(6,SV.str s),(9,SV.int .i64 (↑i:Int))],store:=[(0,some (SB.cells 34 (aI t)))],nxt:=1,dirty:=[0,1,2,3,4,5,6,7,8,9,10,11,12,13,14,15,16],nt:=103})):=by kernel_rfl
theorem aMp(t:Trk)(s:ByteArray)(i:Nat)(K:KC):aB uvE (aA uvR 0) uvF YL 0 K (.exit 0) (uvS t 7 s i)=
 (∃q_,aV uvE (aA uvR 0) uvF ZL 2 0 K q_ {tmps:=[(1,SV.ptr 0 0),(6,SV.str s),(8,SV.int .i64 0)],store:=[(0,some (SB.cells 34 (aI t)))],nxt:=1,dirty:=[0,1,2,3,4,5,6,7,8,9,10,11,12,13,14,15,16],nt:=103}):=by kernel_rfl
theorem aMt(t:Trk)(s:ByteArray)(i:Nat)(K:KC):aB uvE (aA uvR 0) uvF ZL 0 K (.exit 2) (uvS t 8 s i)=
 (∃q_,aV uvE (aA uvR 0) uvF ZM 4 0 K q_ {tmps:=[(1,SV.ptr 0 0),(6,SV.str s),(9,SV.int .i64 0)],store:=[(0,some (SB.cells 34 (aI t)))],nxt:=1,dirty:=[0,1,2,3,4,5,6,7,8,9,10,11,12,13,14,15,16],nt:=103}):=by kernel_rfl
theorem aLP(t:Trk)(s:ByteArray)(i:Nat)(K:KC):aB uvE (aA uvR 0) uvF ZM 0 K (.exit 4) (uvS t 9 s i)=
 (∃(e400:Int),∃(e399:Int),(aU cV 0 [t.sx,t.sy]=aU cV 0 [e400,e399])/\(∃(e397:List Int),∃(e396:List (List Int)),(((⟨#[115,116,97,114,116]⟩:ByteArray)=bytesOf e397/\3=e396.length/\3=3/\cU (bK 2 [SV.str (bytesOf (aH (IntKind.i64.wrap t.head)))] (aG [aC e400,aC e399])) e396)/\bO e397 e396)/\(∀(l394:List Int),∀(_:isT l394 (lnW e397 e396)),Br (decide (s.size+(bytesOf l394).size<9223372036854775808)) (∃(e391:List Int),∃(e390:List (List Int)),(((⟨#[108,97,112,115]⟩:ByteArray)=bytesOf e391/\1=e390.length/\1=1/\cU (aG [aH t.laps]) e390)/\bO e391 e390)/\(∀(l388:List Int),∀(_:isT l388 (lnW e391 e390)),Br (decide ((s++bytesOf l394).size+(bytesOf l388).size<9223372036854775808)) (K (SV.tup [SV.str (s++bytesOf l394++bytesOf l388),SV.int .i64 0]) [] []) (False))) (False)))):=by kernel_rfl
theorem aMR(t:Trk)(h:PM t)(b0:List Int)(hb:b0.length<=90000000)(i:Nat)(K:KC)(hK: ∀l:List Int,gZ l b0 (lnW gC [aC t.sx,aC t.sy,aH t.head]++lnW m9 [aH t.laps])->K (.tup [.str (bytesOf l),.int .i64 0]) [] []):
  aB uvE (aA uvR 0) uvF ZM 0 K (.exit 4) (uvS t 9 (bytesOf b0) i):=by
 have k1:cW [aC t.sx,aC t.sy,aH t.head]:=aJ (eB _) (aJ (eB _) (aJ (sI _) cN))
 have k2:cW [aH t.laps]:=aJ (sI _) cN
 have o1:bO gC [aC t.sx,aC t.sy,aH t.head]:=bP (bD rfl) k1 (de _) (by simp)
 have o2:bO m9 [aH t.laps]:=bP (bD rfl) k2 (de _) (by simp)
 have hw:IntKind.i64.wrap t.head=t.head:=by have:=h.head;rw [fK];omega
 rw [aLP,hw]
 refine ⟨t.sx,t.sy,rfl,gC,_,⟨⟨rfl,rfl,rfl,aA4⟩,o1⟩,fun l1 g1=> ?_⟩
 have e1:=gH (w:=gC) k1
 rw [show gC.length=5 from rfl] at e1
 simp only [az,bw] at e1
 refine kV (Q:=fun s=> ∃(e391:List Int),∃(e390:List (List Int)),(((⟨#[108,97,112,115]⟩:ByteArray)=bytesOf e391/\1=e390.length/\1=1/\cU (aG [aH t.laps]) e390)/\bO e391 e390)/\(∀(l388:List Int),∀(_:isT l388 (lnW e391 e390)),Br (decide (s.size+(bytesOf l388).size<9223372036854775808)) (K (SV.tup [SV.str (s++bytesOf l388),SV.int .i64 0]) [] []) False)) g1 o1 (by omega) fun hg=> ?_
 have hl1:l1.length<=1000:=by rw [show l1=_ from g1];omega
 refine ⟨m9,_,⟨⟨rfl,rfl,rfl,dR _⟩,o2⟩,fun l2 g2=>kV (Q:=fun s=>K (.tup [.str s,.int .i64 0]) [] []) g2 o2 (by rw [au];omega) fun hg2=>hK _ ?_⟩
 unfold lZ at hg hg2
 unfold gZ
 rw [hg2,hg,bo]
theorem aMH(t:Trk)(h:PM t)(b0:List Int)(hb:b0.length<=80000000)(i:Nat)(K:KC)(hK: ∀l:List Int,gZ l b0 (bL (x9 t) 0 t.nt++(lnW gC [aC t.sx,aC t.sy,aH t.head]++lnW m9 [aH t.laps]))->K (.tup [.str (bytesOf l),.int .i64 0]) [] []):
  aB uvE (aA uvR 0) uvF ZL 0 K (.exit 2) (uvS t 8 (bytesOf b0) i):=by
 have hn:=h.nt
 rw [aMt]
 refine ⟨t.nt+1, ?_⟩
 show iter (aF uvE (aA uvR 0) uvF ZM 4) (aB uvE (aA uvR 0) uvF ZM 0 K) (t.nt+1) (uvS t 9 (bytesOf b0) ((0:Nat):Int))
 refine i6 (fun l i=>uvS t 9 (bytesOf l) i) gS (fun i=>[aC (t.ax i),aC (t.ay i),aC (t.bx i),aC (t.sb i),gI (t.sp i)]) t.nt b0 (by omega) (bD rfl) (fun i _=>⟨aJ (eB _) (aJ (eB _) (aJ (eB _) (aJ (eB _) (aJ (JH _) cN)))),by simp⟩) (by omega) (fun i l hi hl X hX=> ?_) fun l hl hle X=> ?_
 ·have hok:cW [aC (t.ax i),aC (t.ay i),aC (t.bx i),aC (t.sb i),gI (t.sp i)]:=aJ (eB _) (aJ (eB _) (aJ (eB _) (aJ (eB _) (aJ (JH _) cN))))
  rw [aH3,aK hi (by omega),am]
  refine Br.of (fun _=>Br.of (fun _=>⟨_,_,_,_,rfl,Br.of (fun c=> ?_) fun c=> ?_⟩) fun c=>eA hi c) fun c=>iI hi c
  ·rw [c] at hok hX
   have ho:=bP (w:=gS) (bD rfl) hok (de _) (by simp)
   exact ⟨gS,[aC (t.ax i),aC (t.ay i),aC (t.bx i),aC (t.sb i),gI true],⟨⟨rfl,rfl,rfl,aGu (e:=gI true)⟩,ho⟩,fun l' h'=>kV (Q:=fun s=>X (uvS t 9 s ((i+1:Nat):Int))) h' ho (by omega) fun hg=>hX _ hg⟩
  ·rw [c] at hok hX
   have ho:=bP (w:=gS) (bD rfl) hok (de _) (by simp)
   exact ⟨gS,[aC (t.ax i),aC (t.ay i),aC (t.bx i),aC (t.sb i),gI false],⟨⟨rfl,rfl,rfl,aGu (e:=gI false)⟩,ho⟩,fun l' h'=>kV (Q:=fun s=>X (uvS t 9 s ((i+1:Nat):Int))) h' ho (by omega) fun hg=>hX _ hg⟩
 ·rw [aH3]
  refine Br.of (fun c=>g7 c) fun _=> ?_
  refine aMR t h l (by omega) t.nt K fun l' hl'=>hK l' ?_
  unfold gZ at hl hl'|-
  rw [hl',hl,bo];rfl
theorem aMP(t:Trk)(h:PM t)(b0:List Int)(hb:b0.length<=70000000)(i:Nat)(K:KC)(hK: ∀l:List Int,gZ l b0 (bL (FG t) 0 t.nr++(bL (x9 t) 0 t.nt++(lnW gC [aC t.sx,aC t.sy,aH t.head]++lnW m9 [aH t.laps])))->K (.tup [.str (bytesOf l),.int .i64 0]) [] []):
  aB uvE (aA uvR 0) uvF YL 0 K (.exit 0) (uvS t 7 (bytesOf b0) i):=by
 have hn:=h.nr
 rw [aMp]
 refine ⟨t.nr+1, ?_⟩
 show iter (aF uvE (aA uvR 0) uvF ZL 2) (aB uvE (aA uvR 0) uvF ZL 0 K) (t.nr+1) (uvS t 8 (bytesOf b0) ((0:Nat):Int))
 refine i6 (fun l i=>uvS t 8 (bytesOf l) i) fP (fun i=>cY (t.rx i) (t.ry i) 0 (t.rn i)) t.nr b0 (by omega) (bD rfl) (fun i hi=>⟨lQ _ _ _ _,by have:=h.rn i hi;rw [eU];omega⟩) (by omega) (fun i l hi hl X hX=> ?_) fun l hl hle X=> ?_
 ·have hrn:=h.rn i hi
  have ho:bO fP (cY (t.rx i) (t.ry i) 0 (t.rn i)):=bP (bD rfl) (lQ _ _ _ _) (by rw [eU];omega) (by rw [eU];omega)
  rw [aIu,aK hi (by omega),am]
  exact Br.of (fun _=>Br.of (fun _=>⟨t.rx i,t.ry i,⟨rfl,by omega⟩,_,⟨rfl,by omega⟩,fP,cY (t.rx i) (t.ry i) 0 (t.rn i),⟨⟨rfl,(eU _ _ _ _).symm,congrArg aG (W1 (t.rx i) (t.ry i) (t.rn i))⟩,ho⟩,fun l' h'=>kV (Q:=fun s=>X (uvS t 8 s ((i+1:Nat):Int))) h' ho (by omega) fun hg=>hX _ hg⟩) fun c=>eA hi c) fun c=>iI hi c
 ·rw [aIu]
  refine Br.of (fun c=>g7 c) fun _=> ?_
  refine aMH t h l (by omega) t.nr K fun l' hl'=>hK l' ?_
  unfold gZ at hl hl'|-
  rw [hl',hl,bo];rfl
theorem aJi(t:Trk)(hs:g8 t)(hi:EP t)(K:KC)(hK:K (.tup [.str (kB t),.int .i64 (cG t).1]) [] []):
  cL uvR (fun _=>0) og 4 9 [.agg (aI t)] [] K:=by
 rw [aDB]
 refine ⟨fZ t,hs,Br.of (fun c=> ?_) fun c=> ?_⟩
 ·unfold kB at hK;rw [c] at hK;exact hK
 have h0:(cG t).1=0:=dt.1 c
 have h:=LJ h0 hi
 have hn:=h.nl
 refine ⟨t,⟨rfl,h.gd⟩,fun l0 g0=>⟨t.nl+1, ?_⟩⟩
 obtain rfl:l0=_:=g0
 have hl0:=vR h.gd
 generalize hg0:mU t=l0 at*
 show iter (aF uvE (aA uvR 0) uvF YL 0) (aB uvE (aA uvR 0) uvF YL 0 K) (t.nl+1) (uvS t 7 (bytesOf l0) ((0:Nat):Int))
 refine i6 (fun l i=>uvS t 7 (bytesOf l) i) gK (fun i=>[aC (t.lx i),aC (t.ly i)]) t.nl l0 (by omega) (bD rfl) (fun i _=>⟨aJ (eB _) (aJ (eB _) cN),by simp⟩) (by omega) (fun i l hi hl X hX=> ?_) fun l hl hle X=> ?_
 ·have hok:cW [aC (t.lx i),aC (t.ly i)]:=aJ (eB _) (aJ (eB _) cN)
  have ho:bO gK [aC (t.lx i),aC (t.ly i)]:=bP (bD rfl) hok (de _) (by simp)
  have w4:IntKind.i64.wrap ((i:Int)+1)=((i+1:Nat):Int):=by rw [fK];omega
  have hp:dX (fun j=>(xyL (fun j=>t.lx (j+i)) (fun j=>t.ly (j+i)) 1).getD j 0) 0 (2*1)=[aC (t.lx i),aC (t.ly i)]:=by
   rw [W1]
   show [aC (t.lx (0+i)),aC (t.ly (0+i))]=_
   rw [bi]
  rw [aIE]
  simp only [w4,am,fo]
  exact Br.of (fun _=>Br.of (fun _=>⟨fun j=>t.lx (j+i),fun j=>t.ly (j+i),⟨rfl,by omega⟩,_,⟨rfl,by omega⟩,gK,[aC (t.lx i),aC (t.ly i)],⟨⟨rfl,rfl,congrArg aG hp⟩,ho⟩,fun l' h'=>kV (Q:=fun s=>X (uvS t 7 s ((i+1:Nat):Int))) h' ho (by omega) fun hg=>hX _ hg⟩) fun c=>absurd c (by rw [ao (show (0:Int)<=(i:Int) by omega),ao (show (i:Int)<=((i+1:Nat):Int) by omega),ao (show ((i+1:Nat):Int)<=(t.nl:Int) by omega)];decide)) fun c=>iI hi c
 ·rw [aIE]
  refine Br.of (fun c=>g7 c) fun _=> ?_
  refine aMP t h l (by omega) t.nl K fun l' hl'=> ?_
  unfold kB at hK
  rw [c,h0] at hK
  have:l'=xA t:=by
   unfold gZ at hl hl'
   unfold xA
   rw [hl',hl,<- hg0,DY]
   simp only [bo];rfl
  rw [this];exact hK
theorem aGS(xs:List SV)(σ:List (Option SB)):Sat Tryz.prog 9 xs σ (cPr xs σ):=by
 intro K hK
 unfold cPr at hK
 split at hK
 case h_2=>exact hK.elim
 obtain ⟨t,⟨rfl,hs⟩,hK⟩:=hK
 exact ⟨_,_,_,hK,eF uvR (fun _=>0) og 4 (fun p h=>by cases h) fun hok _ K hK=>aJi t hs (O0 hok.1) K (hK _ fun _ h=>h)⟩
noncomputable def oh :bT Tryz.prog:=(oe).add 9 cPr aGS
theorem R7(t:Trk)(K:KC):run oh 2 3 [.agg (aI t)] [] K=
 ((iX (aP t.h) (aP t.g) (fH t) (bA t.lx t.ly) (bN t) (fB t))/\(Br (!ZX t) (K (SV.bool true) [] []) (∃(e398:Trk),((aI t)=aI e398/\g8 e398)/\(∃(e396:Trk),((aI t)=aI e396/\g8 e396)/\(Br (kB e398==kB e396) (Br ((cG e398).fst==(cG e396).fst) (K (SV.bool true) [] []) (K (SV.bool false) [] [])) (K (SV.bool false) [] [])))))):=by kernel_rfl
theorem T8(t:Trk):aE Tryz.prog 3 [.agg (aI t)] [] (.bool true) [] []:=
 aS oh 2 fun _ _ K hK=>by
  rw [R7]
  refine ⟨fZ t,Br.of (fun _=>hK) fun c=> ?_⟩
  have hs:=YU (by rw [dr] at c;exact c)
  refine ⟨t,⟨rfl,hs⟩,t,⟨rfl,hs⟩, ?_⟩
  rw [MJ,beq_self_eq_true]
  exact hK
end Go.Proofs.YtghnfjfkjhbgdaaGreatDoor
