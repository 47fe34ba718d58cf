import Derived.Test.YtghnfjfkjhbgdaaGreatDoorZC
import Derived.WalkKit
import Derived.LaidEql
import Derived.Stop.Asserts
import Derived.RowKitTokens
import GoSem.Extern.AbiNoEscape
import Derived.Lib.MakeNoZero
import Derived.Shelf.Strings.OnBuilder
namespace Go.Proofs.YtghnfjfkjhbgdaaGreatDoor
open Go.Se
set_option maxRecDepth 100000
def KJ :List SV->List (Option SB)->Out
 | [.str s],[]=>some (.tup [.int .i64 (rG (aA s)),.int .i64 (sS (aA s))],[],[])
 |_,_=>none
def GA :List SV->List (Option SB)->Out
 | [.str s],[]=>some (.tup [.int .i64 (fF (aA s)),.int .i64 (iQ (aA s))],[],[])
 |_,_=>none
noncomputable def y4 :bU Tryz.prog:=((y3).add 129 (one KJ) (bC fun xs σ v σ' d h=>by
  unfold KJ at h;split at h<;>cases h;first|exact i7|exact i7 _|exact i7 _ _|exact i7 _ _ _|exact i7 _ _ _ _|exact i7 _ _ _ _ _|exact i7 _ _ _ _ _ _|exact i7 _ _ _ _ _ _ _|exact i7 _ _ _ _ _ _ _ _|exact i7 _ _ _ _ _ _ _ _ _|exact i7 _ _ _ _ _ _ _ _ _ _|exact i7 _ _ _ _ _ _ _ _ _ _ _)).add 85 (one GA) (bC fun xs σ v σ' d h=>by
  unfold GA at h;split at h<;>cases h;first|exact gY|exact gY _|exact gY _ _|exact gY _ _ _|exact gY _ _ _ _|exact gY _ _ _ _ _|exact gY _ _ _ _ _ _|exact gY _ _ _ _ _ _ _|exact gY _ _ _ _ _ _ _ _|exact gY _ _ _ _ _ _ _ _ _|exact gY _ _ _ _ _ _ _ _ _ _|exact gY _ _ _ _ _ _ _ _ _ _ _)
end Go.Proofs.YtghnfjfkjhbgdaaGreatDoor
namespace Go.Proofs.YtghnfjfkjhbgdaaGreatDoor
open Go.Se
set_option maxRecDepth 100000
abbrev bkT :TypeId:=130
theorem aE3(n:Nat)(g:Nat->List SV)(K:KC):run y4 2 130 [.ro n 1 g] [] K=
 (Br (decide (0<n)) ((∀(i:Nat),i<n->(g i).length=1/\(g i).all aV=true)/\(Br (true&&(decide (n*16<=1099511627776)&&decide (n<9223372036854775808))) (Br (decide (0<n)) (K (SV.own 0 0 1 n) [some (SB.row 9 1 n g)] []) (K (SV.arr 0 0 0 0) [some (SB.cells 9 [])] [])) (False))) (False)):=by kernel_rfl
theorem aGp(K:KC):run y4 2 130 [.nils] [] K=
 (K SV.nils [] []):=by kernel_rfl
theorem aF7(K:KC):run y4 2 130 [.emp] [] K=
 (K (SV.arr 0 0 0 0) [some (SB.cells 9 [])] []):=by kernel_rfl
theorem SS(p:List (List Int))(hn:p.length<=1048577):aD Tryz.prog 130 [.ro p.length 1 (aH p)] [] (.ro p.length 1 (aH p)) [] []:=
 qA (fun i _=>rfl) (fun h0=>aW y4 2 fun _ _ K hK=>by
   rw [aE3]
   exact If.mk (decide_eq_true h0) ⟨fun i _=>⟨rfl,rfl⟩,If.mk (by simp only [Bool.and_eq_true,decide_eq_true_eq,Bool.true_and];omega) (Br.of (fun _=>hK) fun c=>absurd h0 (of_decide_eq_false c))⟩)
  (aW y4 2 fun _ _ K hK=>by rw [aGp];exact hK) (aW y4 2 fun _ _ K hK=>by rw [aF7];exact hK)
def RE :List SV->List (Option SB)->KC->Prop
 |xs,[],K=> ∃p:List (List Int),(xs=[.ro p.length 1 (aH p)]/\p.length<=1048577)/\K (.ro p.length 1 (aH p)) [] []
 |_,_::_,_=>False
theorem NW(xs:List SV)(σ:List (Option SB)):Sat Tryz.prog 130 xs σ (RE xs σ):=by
 intro K hK
 cases σ with
 |nil=>obtain ⟨p,⟨rfl,hp⟩,hK⟩:=hK;exact ⟨_,_,_,hK,SS p hp⟩
 |cons a l=>exact hK.elim
noncomputable def y5 :bU Tryz.prog:=(y4).add 130 RE NW
theorem aCg(b:Bk)(all lo hi:Int)(w:ByteArray)(K:KC):run y5 3 81 [.ptr 0 0,.str w,.int .i64 lo,.int .i64 hi] [some (.cells bkT (bkC all b))] K=
 (Br (!b.err==0) (K SV.nils [some (SB.cells 130 [SV.ro b.q.length 2 (qG b.q),SV.int .i64 all,SV.int .i64 b.last,SV.int .i64 b.err,SV.int .i64 b.place])] []) (Br ((↑b.q.length:Int)==0) (Br (b.err==0) (K SV.nils [some (SB.cells 130 [SV.ro b.q.length 2 (qG b.q),SV.int .i64 all,SV.int .i64 b.last,SV.int .i64 20,SV.int .i64 (IntKind.i64.wrap (all+1))])] [0]) (K SV.nils [some (SB.cells 130 [SV.ro b.q.length 2 (qG b.q),SV.int .i64 all,SV.int .i64 b.last,SV.int .i64 b.err,SV.int .i64 b.place])] [])) (Br (true&&decide (0<(↑b.q.length:Int))) (Br (true&&decide (0<(↑(b.q.getD (Int.toNat 0) (0,[])).snd.length:Int))) (Br (!bytesOf ((b.q.getD (Int.toNat 0) (0,[])).snd.getD (Int.toNat 0) [])==w) (Br (b.err==0) (K SV.nils [some (SB.cells 130 [SV.ro b.q.length 2 (qG b.q),SV.int .i64 all,SV.int .i64 b.last,SV.int .i64 21,SV.int .i64 (b.q.getD (Int.toNat 0) (0,[])).fst])] [0]) (K SV.nils [some (SB.cells 130 [SV.ro b.q.length 2 (qG b.q),SV.int .i64 all,SV.int .i64 b.last,SV.int .i64 b.err,SV.int .i64 b.place])] [])) (Br (decide (IntKind.i64.wrap ((↑(b.q.getD (Int.toNat 0) (0,[])).snd.length:Int) - 1)<lo)) (Br (b.err==0) (K SV.nils [some (SB.cells 130 [SV.ro b.q.length 2 (qG b.q),SV.int .i64 all,SV.int .i64 b.last,SV.int .i64 22,SV.int .i64 (b.q.getD (Int.toNat 0) (0,[])).fst])] [0]) (K SV.nils [some (SB.cells 130 [SV.ro b.q.length 2 (qG b.q),SV.int .i64 all,SV.int .i64 b.last,SV.int .i64 b.err,SV.int .i64 b.place])] [])) (Br (decide (IntKind.i64.wrap ((↑(b.q.getD (Int.toNat 0) (0,[])).snd.length:Int) - 1)>hi)) (Br (b.err==0) (K SV.nils [some (SB.cells 130 [SV.ro b.q.length 2 (qG b.q),SV.int .i64 all,SV.int .i64 b.last,SV.int .i64 22,SV.int .i64 (b.q.getD (Int.toNat 0) (0,[])).fst])] [0]) (K SV.nils [some (SB.cells 130 [SV.ro b.q.length 2 (qG b.q),SV.int .i64 all,SV.int .i64 b.last,SV.int .i64 b.err,SV.int .i64 b.place])] [])) (Br (true&&(decide (1<=(↑b.q.length:Int))&&decide ((↑b.q.length:Int)<=(↑b.q.length:Int)))) (Br (true&&(decide (1<=(↑(b.q.getD (Int.toNat 0) (0,[])).snd.length:Int))&&decide ((↑(b.q.getD (Int.toNat 0) (0,[])).snd.length:Int)<=(↑(b.q.getD (Int.toNat 0) (0,[])).snd.length:Int)))) (∃(e391:List (List Int)),([SV.ro ((↑(b.q.getD (Int.toNat 0) (0,[])).snd.length:Int).toNat - 1) 1 fun (i:Nat)=>aH (b.q.getD (Int.toNat 0) (0,[])).snd (i+1)]=[SV.ro e391.length 1 (aH e391)]/\e391.length<=1048577)/\(K (SV.ro e391.length 1 (aH e391)) [some (SB.cells 130 [SV.ro ((↑b.q.length:Int).toNat - 1) 2 fun (i:Nat)=>qG b.q (i+1),SV.int .i64 all,SV.int .i64 (b.q.getD (Int.toNat 0) (0,[])).fst,SV.int .i64 b.err,SV.int .i64 b.place])] [0])) (False)) (False))))) (False)) (False)))):=by kernel_rfl
theorem aBz(b:Bk)(all:Int)(w:ByteArray)(K:KC):run y5 3 80 [.ptr 0 0,.str w] [some (.cells bkT (bkC all b))] K=
 (Br (b.err==0) (Br (decide ((↑b.q.length:Int)>0)) (Br (true&&decide (0<(↑b.q.length:Int))) (Br (true&&decide (0<(↑(b.q.getD (Int.toNat 0) (0,[])).snd.length:Int))) (K (SV.bool (bytesOf ((b.q.getD (Int.toNat 0) (0,[])).snd.getD (Int.toNat 0) [])==w)) [some (SB.cells 130 [SV.ro b.q.length 2 (qG b.q),SV.int .i64 all,SV.int .i64 b.last,SV.int .i64 b.err,SV.int .i64 b.place])] []) (False)) (False)) (K (SV.bool false) [some (SB.cells 130 [SV.ro b.q.length 2 (qG b.q),SV.int .i64 all,SV.int .i64 b.last,SV.int .i64 b.err,SV.int .i64 b.place])] [])) (K (SV.bool false) [some (SB.cells 130 [SV.ro b.q.length 2 (qG b.q),SV.int .i64 all,SV.int .i64 b.last,SV.int .i64 b.err,SV.int .i64 b.place])] [])):=by kernel_rfl
theorem aEt(b:Bk)(all:Int)(s:ByteArray)(K:KC):run y5 3 76 [.ptr 0 0,.str s] [some (.cells bkT (bkC all b))] K=
 (Br (!b.err==0) (K (SV.int .i64 0) [some (SB.cells 130 [SV.ro b.q.length 2 (qG b.q),SV.int .i64 all,SV.int .i64 b.last,SV.int .i64 b.err,SV.int .i64 b.place])] []) (Br (b.err==0) (Br (sS (aA s) !=0) (K (SV.int .i64 (rG (aA s))) [some (SB.cells 130 [SV.ro b.q.length 2 (qG b.q),SV.int .i64 all,SV.int .i64 b.last,SV.int .i64 (sS (aA s)),SV.int .i64 b.last])] [0]) (K (SV.int .i64 (rG (aA s))) [some (SB.cells 130 [SV.ro b.q.length 2 (qG b.q),SV.int .i64 all,SV.int .i64 b.last,SV.int .i64 b.err,SV.int .i64 b.place])] [])) (K (SV.int .i64 (rG (aA s))) [some (SB.cells 130 [SV.ro b.q.length 2 (qG b.q),SV.int .i64 all,SV.int .i64 b.last,SV.int .i64 b.err,SV.int .i64 b.place])] []))):=by kernel_rfl
theorem aEW(b:Bk)(all lo hi:Int)(s:ByteArray)(K:KC):run y5 3 41 [.ptr 0 0,.str s,.int .i64 lo,.int .i64 hi] [some (.cells bkT (bkC all b))] K=
 (Br (!b.err==0) (K (SV.int .i64 0) [some (SB.cells 130 [SV.ro b.q.length 2 (qG b.q),SV.int .i64 all,SV.int .i64 b.last,SV.int .i64 b.err,SV.int .i64 b.place])] []) (Br (iQ (aA s)==0) (Br (decide (fF (aA s)<lo)) (Br (b.err==0) (K (SV.int .i64 0) [some (SB.cells 130 [SV.ro b.q.length 2 (qG b.q),SV.int .i64 all,SV.int .i64 b.last,SV.int .i64 40,SV.int .i64 b.last])] [0]) (K (SV.int .i64 0) [some (SB.cells 130 [SV.ro b.q.length 2 (qG b.q),SV.int .i64 all,SV.int .i64 b.last,SV.int .i64 b.err,SV.int .i64 b.place])] [])) (Br (decide (fF (aA s)>hi)) (Br (b.err==0) (K (SV.int .i64 0) [some (SB.cells 130 [SV.ro b.q.length 2 (qG b.q),SV.int .i64 all,SV.int .i64 b.last,SV.int .i64 40,SV.int .i64 b.last])] [0]) (K (SV.int .i64 0) [some (SB.cells 130 [SV.ro b.q.length 2 (qG b.q),SV.int .i64 all,SV.int .i64 b.last,SV.int .i64 b.err,SV.int .i64 b.place])] [])) (Br (b.err==0) (Br (iQ (aA s) !=0) (K (SV.int .i64 (fF (aA s))) [some (SB.cells 130 [SV.ro b.q.length 2 (qG b.q),SV.int .i64 all,SV.int .i64 b.last,SV.int .i64 (iQ (aA s)),SV.int .i64 b.last])] [0]) (K (SV.int .i64 (fF (aA s))) [some (SB.cells 130 [SV.ro b.q.length 2 (qG b.q),SV.int .i64 all,SV.int .i64 b.last,SV.int .i64 b.err,SV.int .i64 b.place])] [])) (K (SV.int .i64 (fF (aA s))) [some (SB.cells 130 [SV.ro b.q.length 2 (qG b.q),SV.int .i64 all,SV.int .i64 b.last,SV.int .i64 b.err,SV.int .i64 b.place])] [])))) (Br (b.err==0) (Br (iQ (aA s) !=0) (K (SV.int .i64 (fF (aA s))) [some (SB.cells 130 [SV.ro b.q.length 2 (qG b.q),SV.int .i64 all,SV.int .i64 b.last,SV.int .i64 (iQ (aA s)),SV.int .i64 b.last])] [0]) (K (SV.int .i64 (fF (aA s))) [some (SB.cells 130 [SV.ro b.q.length 2 (qG b.q),SV.int .i64 all,SV.int .i64 b.last,SV.int .i64 b.err,SV.int .i64 b.place])] [])) (K (SV.int .i64 (fF (aA s))) [some (SB.cells 130 [SV.ro b.q.length 2 (qG b.q),SV.int .i64 all,SV.int .i64 b.last,SV.int .i64 b.err,SV.int .i64 b.place])] [])))):=by kernel_rfl
theorem aCW(b:Bk)(all:Int)(s a:ByteArray)(t:TypeId)(K:KC):oA 3 y5 3 83 [.ptr 0 0,.str s,.arr 1 0 1 1] [some (.cells bkT (bkC all b)),some (.cells t [.str a])] K=
 (Br (!b.err==0) (K (SV.int .i64 0) [some (SB.cells 130 [SV.ro b.q.length 2 (qG b.q),SV.int .i64 all,SV.int .i64 b.last,SV.int .i64 b.err,SV.int .i64 b.place]),some (SB.cells t [SV.str a])] []) (Br (s==a) (K (SV.int .i64 0) [some (SB.cells 130 [SV.ro b.q.length 2 (qG b.q),SV.int .i64 all,SV.int .i64 b.last,SV.int .i64 b.err,SV.int .i64 b.place]),some (SB.cells t [SV.str a])] []) (Br (b.err==0) (K (SV.int .i64 0) [some (SB.cells 130 [SV.ro b.q.length 2 (qG b.q),SV.int .i64 all,SV.int .i64 b.last,SV.int .i64 24,SV.int .i64 b.last]),some (SB.cells t [SV.str a])] [0]) (K (SV.int .i64 0) [some (SB.cells 130 [SV.ro b.q.length 2 (qG b.q),SV.int .i64 all,SV.int .i64 b.last,SV.int .i64 b.err,SV.int .i64 b.place]),some (SB.cells t [SV.str a])] [])))):=by kernel_rfl
theorem aCv(b:Bk)(all:Int)(s a c:ByteArray)(t:TypeId)(K:KC):oA 4 y5 3 83 [.ptr 0 0,.str s,.arr 1 0 2 2] [some (.cells bkT (bkC all b)),some (.cells t [.str a,.str c])] K=
 (Br (!b.err==0) (K (SV.int .i64 0) [some (SB.cells 130 [SV.ro b.q.length 2 (qG b.q),SV.int .i64 all,SV.int .i64 b.last,SV.int .i64 b.err,SV.int .i64 b.place]),some (SB.cells t [SV.str a,SV.str c])] []) (Br (s==a) (K (SV.int .i64 0) [some (SB.cells 130 [SV.ro b.q.length 2 (qG b.q),SV.int .i64 all,SV.int .i64 b.last,SV.int .i64 b.err,SV.int .i64 b.place]),some (SB.cells t [SV.str a,SV.str c])] []) (Br (s==c) (K (SV.int .i64 1) [some (SB.cells 130 [SV.ro b.q.length 2 (qG b.q),SV.int .i64 all,SV.int .i64 b.last,SV.int .i64 b.err,SV.int .i64 b.place]),some (SB.cells t [SV.str a,SV.str c])] []) (Br (b.err==0) (K (SV.int .i64 0) [some (SB.cells 130 [SV.ro b.q.length 2 (qG b.q),SV.int .i64 all,SV.int .i64 b.last,SV.int .i64 24,SV.int .i64 b.last]),some (SB.cells t [SV.str a,SV.str c])] [0]) (K (SV.int .i64 0) [some (SB.cells 130 [SV.ro b.q.length 2 (qG b.q),SV.int .i64 all,SV.int .i64 b.last,SV.int .i64 b.err,SV.int .i64 b.place]),some (SB.cells t [SV.str a,SV.str c])] []))))):=by kernel_rfl
theorem aEh(b:Bk)(all:Int)(K:KC):run y5 3 82 [.ptr 0 0] [some (.cells bkT (bkC all b))] K=
 (Br (b.err==0) (Br (b.err==0) (K (SV.tup []) [some (SB.cells 130 [SV.ro b.q.length 2 (qG b.q),SV.int .i64 all,SV.int .i64 b.last,SV.int .i64 22,SV.int .i64 b.last])] [0]) (K (SV.tup []) [some (SB.cells 130 [SV.ro b.q.length 2 (qG b.q),SV.int .i64 all,SV.int .i64 b.last,SV.int .i64 b.err,SV.int .i64 b.place])] [])) (K (SV.tup []) [some (SB.cells 130 [SV.ro b.q.length 2 (qG b.q),SV.int .i64 all,SV.int .i64 b.last,SV.int .i64 b.err,SV.int .i64 b.place])] [])):=by kernel_rfl
theorem aEm(b:Bk)(all:Int)(K:KC):run y5 3 42 [.ptr 0 0] [some (.cells bkT (bkC all b))] K=
 (Br (decide ((↑b.q.length:Int)>0)) (Br (true&&decide (0<(↑b.q.length:Int))) (Br (b.err==0) (K (SV.tup [SV.int .i64 23,SV.int .i64 (b.q.getD (Int.toNat 0) (0,[])).fst]) [some (SB.cells 130 [SV.ro b.q.length 2 (qG b.q),SV.int .i64 all,SV.int .i64 b.last,SV.int .i64 23,SV.int .i64 (b.q.getD (Int.toNat 0) (0,[])).fst])] [0]) (K (SV.tup [SV.int .i64 b.err,SV.int .i64 b.place]) [some (SB.cells 130 [SV.ro b.q.length 2 (qG b.q),SV.int .i64 all,SV.int .i64 b.last,SV.int .i64 b.err,SV.int .i64 b.place])] [])) (False)) (K (SV.tup [SV.int .i64 b.err,SV.int .i64 b.place]) [some (SB.cells 130 [SV.ro b.q.length 2 (qG b.q),SV.int .i64 all,SV.int .i64 b.last,SV.int .i64 b.err,SV.int .i64 b.place])] [])):=by kernel_rfl
theorem p0 : ∀p:Nat,p∈([]:List Nat)->p∈[0]:=fun _ h=>nomatch h
theorem DN : ∀p:Nat,p∈[0]->p∈[0]:=fun _ h=>h
theorem Z3 {b:Bk} {all lo hi:Int} {w:ByteArray} {K:KC} (hb:aK b) (ha:0<=all/\all<=1048577)
  (h1:fN b w lo hi=true-> ∀d',(∀p,p∈d'->p∈[0])->K .nils [some (.cells bkT (bkC all (gB all b w lo hi)))] d')
  (h2:fN b w lo hi=false-> ∀d',(∀p,p∈d'->p∈[0])->K (.ro (gW b).length 1 (aH (gW b))) [some (.cells bkT (bkC all (gB all b w lo hi)))] d'):
  run y5 3 81 [.ptr 0 0,.str w,.int .i64 lo,.int .i64 hi] [some (.cells bkT (bkC all b))] K:=by
 rw [aCg]
 refine Br.of (fun c=> ?_) fun c=> ?_
 ·obtain ⟨t1,t2⟩:=aEr (w:=w) (lo:=lo) (hi:=hi) (all:=all) (b:=b) (by simpa using c)
  have:=h1 t1 [] p0
  rw [t2] at this;exact this
 have he:(b.err==0)=true:=by simpa using c
 rw [MQ]
 have bad: ∀e a:Int,lH b w lo hi=e->e≠0->(bif b.q.isEmpty then all+1 else (cT b.q).1)=a-> ∀X:Prop,Br (b.err==0) (K SV.nils [some (SB.cells bkT [SV.ro b.q.length 2 (qG b.q),SV.int .i64 all,SV.int .i64 b.last,SV.int .i64 e,SV.int .i64 a])] [0]) X:=by
  intro e a hT h0 hpl X
  obtain ⟨t1,t2⟩:=aEP (all:=all) he hT h0
  have:=h1 t1 [0] DN
  rw [t2,hpl] at this
  rw [he]
  exact this
 refine Br.of (fun hq=> ?_) fun hq=> ?_
 ·rw [show IntKind.i64.wrap (all+1)=all+1 by rw [g7];omega]
  exact bad 20 (all+1) (by unfold lH;rw [hq];rfl) (by decide) (by rw [hq];rfl) _
 have hne:b.q≠[]:=fun e=>by rw [e] at hq;cases hq
 obtain ⟨l1,l2⟩:=hb.head hne
 have hql:0<b.q.length:=List.length_pos_iff.2 hne
 have hqall:=hb.all
 refine Br.of (fun _=> ?_) fun f=>absurd f (by simp only [Bool.true_and,decide_eq_false_iff_not];omega)
 show Br (true&&decide (0<(((cT b.q).2.length:Nat):Int))) _ _
 refine Br.of (fun _=> ?_) fun f=>absurd f (by simp only [Bool.true_and,decide_eq_false_iff_not];omega)
 have hpl:(bif b.q.isEmpty then all+1 else (cT b.q).1)=(cT b.q).1:=by rw [hq];rfl
 show Br (!bytesOf ((cT b.q).2.getD 0 [])==w) _ _
 have hE:lH b w lo hi=bif !(bytesOf ((cT b.q).2.getD 0 [])==w) then 21 else bif decide ((((cT b.q).2.length:Int) - 1)<lo)||decide ((((cT b.q).2.length:Int) - 1)>hi) then 22 else 0:=by unfold lH;rw [hq];rfl
 refine Br.of (fun c1=>bad 21 _ (by rw [hE,c1];rfl) (by decide) hpl _) fun c1=> ?_
 have hw:IntKind.i64.wrap (((cT b.q).2.length:Int) - 1)=((cT b.q).2.length:Int) - 1:=by rw [g7];omega
 rw [c1] at hE
 show Br (decide (IntKind.i64.wrap (((cT b.q).2.length:Int) - 1)<lo)) _ (Br (decide (IntKind.i64.wrap (((cT b.q).2.length:Int) - 1)>hi)) _ _)
 rw [hw]
 refine Br.of (fun c2=>bad 22 _ (by rw [hE,c2];rfl) (by decide) hpl _) fun c2=>Br.of (fun c3=>bad 22 _ (by rw [hE,c3,Bool.or_true];rfl) (by decide) hpl _) fun c3=> ?_
 refine Br.of (fun _=> ?_) fun f=>absurd f (by simp only [Bool.true_and,Bool.and_eq_false_iff,decide_eq_false_iff_not];omega)
 show Br (true&&(decide (1<=(((cT b.q).2.length:Nat):Int))&&decide ((((cT b.q).2.length:Nat):Int)<=(((cT b.q).2.length:Nat):Int)))) _ _
 refine Br.of (fun _=> ?_) fun f=>absurd f (by simp only [Bool.true_and,Bool.and_eq_false_iff,decide_eq_false_iff_not];omega)
 obtain ⟨t1,t2⟩:=aGa (all:=all) (lo:=lo) (hi:=hi) (w:=w) he (by rw [hE,c2,c3];rfl)
 have:=h2 t1 [0] DN
 rw [t2] at this
 refine ⟨(cT b.q).2.tail,⟨?_,by simp only [List.length_tail];omega⟩, ?_⟩
 ·show [SV.ro (((cT b.q).2.length:Int).toNat - 1) 1 fun i=>aH (cT b.q).2 (i+1)]=_
  rw [Int.toNat_natCast,OJ,List.length_tail]
 ·rw [Int.toNat_natCast,aBx]
  unfold bkC at this
  simp only [List.length_tail] at this
  simp only [List.length_tail]
  unfold gW at this
  simp only [List.length_tail] at this
  exact this
theorem WK{b:Bk}{all:Int}{w:ByteArray}{K:KC}(hb:aK b)(hK:K (.bool (eY b w)) [some (.cells bkT (bkC all b))] []):
  run y5 3 80 [.ptr 0 0,.str w] [some (.cells bkT (bkC all b))] K:=by
 rw [aBz]
 unfold eY at hK
 refine Br.of (fun c=> ?_) fun c=>by rw [c] at hK;exact hK
 rw [c] at hK
 refine Br.of (fun hq=> ?_) fun hq=> ?_
 ·have hql:0<b.q.length:=by have:=of_decide_eq_true hq;omega
  have hne:b.q≠[]:=List.length_pos_iff.1 hql
  obtain ⟨l1,l2⟩:=hb.head hne
  rw [show b.q.isEmpty=false by cases hh:b.q with|nil=>exact absurd hh hne|cons=>rfl] at hK
  refine Br.of (fun _=> ?_) fun f=>absurd f (by simp only [Bool.true_and,decide_eq_false_iff_not];omega)
  show Br (true&&decide (0<(((cT b.q).2.length:Nat):Int))) _ _
  exact Br.of (fun _=>hK) fun f=>absurd f (by simp only [Bool.true_and,decide_eq_false_iff_not];omega)
 ·have:b.q.isEmpty=true:=by
   have:=of_decide_eq_false hq
   rw [List.isEmpty_iff_length_eq_zero];omega
  rw [this] at hK;exact hK
theorem aBY{b:Bk}{all:Int}{s:ByteArray}{K:KC}(hK: ∀d',(∀p,p∈d'->p∈[0])->K (.int .i64 (tY b (aA s))) [some (.cells bkT (bkC all (jZ b (aA s))))] d'):
  run y5 3 76 [.ptr 0 0,.str s] [some (.cells bkT (bkC all b))] K:=by
 rw [aEt]
 unfold tY jZ at hK
 cases c:b.err==0 with
 |false=>rw [c,vP c] at hK;exact hK [] p0
 |true=>
  rw [c] at hK
  refine Br.of (fun e=>by cases e) fun _=>Br.of (fun _=>Br.of (fun d=> ?_) fun d=> ?_) fun e=>by cases e
  ·rw [nB c (by simpa using d)] at hK;exact hK [0] DN
  ·have:sS (aA s)=0:=by simpa using d
   rw [this,IH] at hK;exact hK [] p0
theorem aCt{b:Bk}{all lo hi:Int}{s:ByteArray}{K:KC}(hK: ∀d',(∀p,p∈d'->p∈[0])->K (.int .i64 (jT b (aA s) lo hi)) [some (.cells bkT (bkC all (iC b (aA s) lo hi)))] d'):
  run y5 3 41 [.ptr 0 0,.str s,.int .i64 lo,.int .i64 hi] [some (.cells bkT (bkC all b))] K:=by
 rw [aEW]
 unfold jT iC at hK
 cases c:b.err==0 with
 |false=>rw [c,vP c] at hK;exact hK [] p0
 |true=>
  rw [c] at hK
  have h24:iQ (aA s)≠0->iQ (aA s)=24/\fF (aA s)=0:=fun h=>by
   unfold iQ fF at*
   cases hn:kV (cV (aA s)) 18 with
   |true=>rw [hn] at h;exact absurd rfl h
   |false=>exact ⟨rfl,rfl⟩
  refine Br.of (fun e=>by cases e) fun _=> ?_
  cases w:iQ (aA s)==0 with
  |true=>
   have hw0:iQ (aA s)=0:=by simpa using w
   refine Br.of (fun _=>Br.of (fun d=>Br.of (fun _=> ?_) fun e=>by cases e) fun d=>Br.of (fun d2=>Br.of (fun _=> ?_) fun e=>by cases e) fun d2=>Br.of (fun _=>Br.of (fun d3=> ?_) fun d3=> ?_) fun e=>by cases e) fun e=>by cases e
   ·have hE:xY (aA s) lo hi=40:=by unfold xY;rw [w,d];rfl
    rw [hE,nB c (by decide)] at hK;exact hK [0] DN
   ·have hE:xY (aA s) lo hi=40:=by unfold xY;rw [w,d2,Bool.or_true];rfl
    rw [hE,nB c (by decide)] at hK;exact hK [0] DN
   ·rw [hw0] at d3;cases d3
   ·have hE:xY (aA s) lo hi=0:=by unfold xY;rw [w,d,d2];rfl
    rw [hE,IH] at hK;exact hK [] p0
  |false=>
   have hw0:=h24 (by simpa using w)
   have hE:xY (aA s) lo hi=24:=by unfold xY;rw [w];rfl
   rw [hE,nB c (by decide)] at hK
   refine Br.of (fun e=>by cases e) fun _=>Br.of (fun _=>Br.of (fun _=> ?_) fun d=> ?_) fun e=>by cases e
   ·rw [hw0.1,hw0.2];exact hK [0] DN
   ·rw [hw0.1] at d;cases d
theorem aBN{b:Bk}{all:Int}{K:KC}(hK: ∀d',(∀p,p∈d'->p∈[0])->K (.tup []) [some (.cells bkT (bkC all (wS b)))] d'):
  run y5 3 82 [.ptr 0 0] [some (.cells bkT (bkC all b))] K:=by
 rw [aEh]
 unfold wS at hK
 cases c:b.err==0 with
 |false=>rw [vP c] at hK;exact hK [] p0
 |true=>rw [nB c (by decide)] at hK;exact hK [0] DN
theorem aB8{b:Bk}{all:Int}{K:KC}(hK: ∀d',(∀p,p∈d'->p∈[0])->K (.tup [.int .i64 (x8 b),.int .i64 (DH b)]) [some (.cells bkT (bkC all (XM b)))] d'):
  run y5 3 42 [.ptr 0 0] [some (.cells bkT (bkC all b))] K:=by
 rw [aEm]
 unfold x8 DH XM at hK
 refine Br.of (fun hq=> ?_) fun hq=> ?_
 ·have hql:0<b.q.length:=by have:=of_decide_eq_true hq;omega
  have hne:b.q.isEmpty=false:=by cases hh:b.q with|nil=>rw [hh] at hql;simp at hql|cons=>rfl
  rw [hne] at hK
  refine Br.of (fun _=> ?_) fun f=>absurd f (by simp only [Bool.true_and,decide_eq_false_iff_not];omega)
  cases c:b.err==0 with
  |false=>
   simp only [cond_false] at hK
   rw [vP c,show (b.err !=0)=true by rw [bne,c];rfl] at hK
   exact hK [] p0
  |true=>
   simp only [cond_false] at hK
   rw [nB c (by decide),show (b.err !=0)=false by rw [bne,c];rfl] at hK
   exact hK [0] DN
 ·have hne:b.q.isEmpty=true:=by
   have:=of_decide_eq_false hq
   rw [List.isEmpty_iff_length_eq_zero];omega
  rw [hne] at hK
  have h0:(bif b.err !=0 then b.err else bif true then 0 else 23)=b.err:=by
   cases c:b.err !=0
   ·have:b.err=0:=by simpa using c
    rw [this];rfl
   ·rfl
  have h1:(bif b.err !=0 then b.place else bif true then b.place else (cT b.q).1)=b.place:=by cases b.err !=0<;>rfl
  rw [h0,h1] at hK
  exact hK [] p0
end Go.Proofs.YtghnfjfkjhbgdaaGreatDoor
namespace Go.Se
variable {P:Program}
theorem B8 {k:FuncId} {xs:List SV} {e e2:TypeId} {st n:Nat} {g g':Nat->List SV} {cs:List SV} (hcs:ids.idsL cs=[]) (hg: ∀i,i<n->g i=g' i)
  (h:aD P k xs [] (.ptr 0 0) [some (.cells e (.own 1 0 st n::cs)),some (.row e2 st n g)] []):aD P k xs [] (.ptr 0 0) [some (.cells e (.ro n st g'::cs))] []:=by
 intro ρ T w vals h1 h2 h3 h4
 refine (h ρ T w vals h1 h2 h3 h4).mono fun x w' ⟨ρ',T',hd⟩=> ?_
 obtain ⟨b0,r1,rfl⟩:=hd.val
 obtain ⟨b0',r2,r3,vs0,r4,v1,rest,r5,r6,r7⟩:=hd.store 0 _ rfl
 rw [r1] at r2;cases r2
 obtain ⟨b1,c,q1,rfl,q2,q3,_⟩:=r6
 obtain ⟨b1',q4,q5,vs1,q6,q7,q8⟩:=hd.store 1 _ rfl
 rw [q1] at q4;cases q4
 have hne:b0≠b1:=fun e=>by
  subst e
  have:=hd.inj 0 1 b0 (Nat.le_refl _) (Nat.zero_le _) r1 q1
  cases this
 have hρ: ∀p,ρ p=none:=fun p=>by
  cases hp:ρ p with
  |none=>rfl
  |some b=>exact absurd (h4 p b hp).1 (Nat.not_lt_zero _)
 have hnew: ∀p b,ρ' p=some b->w.heap.size<=b:=fun p b hp=>by
  rcases hd.fresh p b (Nat.zero_le _) hp with h|⟨q,hq,_⟩
  ·exact h
  ·cases hq
 refine ⟨fun p=>if p=0 then some b0 else none,fun c=>T' c/\c≠b1,{
  names:=fun p b hp=>by rw [hρ] at hp;cases hp
  only:=fun p b hp=>by
   by_cases h0:p=0
   ·subst h0;exact Nat.zero_lt_one
   ·simp only [if_neg h0] at hp;cases hp
  len:=Nat.zero_le _
  val:=⟨b0,rfl,rfl⟩
  store:=fun p sb hp=> ?_
  fresh:=fun p b _ hp=>by
   by_cases h0:p=0
   ·subst h0
    simp only [if_true,Option.some.injEq] at hp
    subst hp
    exact .inl (hnew 0 _ r1)
   ·simp only [if_neg h0] at hp;cases hp
  inj:=fun p q b _ _ hp hq=>by
   by_cases h0:p=0<;>by_cases h1:q=0
   ·rw [h0,h1]
   ·simp only [if_neg h1] at hq;cases hq
   ·simp only [if_neg h0] at hp;cases hp
   ·simp only [if_neg h0] at hp;cases hp
  dirty:=fun p hp=>by cases hp
  grow:=hd.grow
  tback:=fun c hc ht=>hd.tback c hc ht.1
  below:=fun p b hp=>by
   by_cases h0:p=0
   ·subst h0
    simp only [if_true,Option.some.injEq] at hp
    subst hp
    exact hd.below 0 _ r1
   ·simp only [if_neg h0] at hp;cases hp
  tkeep:=fun c hc ht=>by
   rcases hd.tkeep c hc ht with h|⟨q,hq,_⟩
   ·have:=hnew 1 b1 q1
    exact .inl ⟨h,by omega⟩
   ·cases hq}⟩
 match p,hp with
 |p+1,hp=>simp at hp
 |0,hp=>
  cases hp
  refine ⟨b0,rfl,⟨r3,hne⟩,vs0,r4,_,rest,r5, ?_, ?_⟩
  ·refine ⟨some ⟨b1,0*st,none⟩,c,rfl,⟨q2,by omega,fun he=>by cases he⟩,fun _=>⟨b1,0,by rw [Nat.zero_mul],(Array.getElem?_eq_some_iff.1 q6).1,fun ht=>ht.2 rfl,fun i hi=> ?_⟩⟩
   have hr:=aR (T':=fun c=>T' c/\c≠b1) (fun _ _ h=>h) (fun _ _ h=>h.1) (aX.refl T' w') _ _ (q8 i hi)
   rw [Nat.zero_add,<- hg i hi]
   refine dH hr fun j u hj=> ?_
   rw [dO q6]
   rw [List.getElem?_take] at hj
   split at hj
   ·rw [List.getElem?_drop] at hj
    simpa using hj
   ·cases hj
  ·exact aR (fun _ _ h=>h) (fun _ _ h=>h.1) (aX.refl T' w') _ _ (fJ _ _ hcs r7)
theorem AL {k:FuncId} {xs:List SV} {e:TypeId} {st:Nat} {g:Nat->List SV} {cs:List SV}
  (h:aD P k xs [] (.ptr 0 0) [some (.cells e (.nils::cs))] []):aD P k xs [] (.ptr 0 0) [some (.cells e (.ro 0 st g::cs))] []:=by
 intro ρ T w vals h1 h2 h3 h4
 refine (h ρ T w vals h1 h2 h3 h4).mono fun x w' ⟨ρ',T',hd⟩=>⟨ρ',T',{
  names:=hd.names
  only:=hd.only
  len:=hd.len
  val:=hd.val
  store:=fun p sb hp=> ?_
  fresh:=fun p b hp hb=>by
   rcases hd.fresh p b hp hb with h|⟨q,hq,_⟩
   ·exact .inl h
   ·cases hq
  inj:=hd.inj
  dirty:=hd.dirty
  grow:=hd.grow
  tback:=hd.tback
  below:=hd.below
  tkeep:=fun c hc ht=>by
   rcases hd.tkeep c hc ht with h|⟨q,hq,_⟩
   ·exact .inl h
   ·cases hq}⟩
 match p,hp with
 |p+1,hp=>simp at hp
 |0,hp=>
  cases hp
  obtain ⟨b0,r2,r3,vs0,r4,v1,rest,r5,r6,r7⟩:=hd.store 0 _ rfl
  exact ⟨b0,r2,r3,vs0,r4,v1,rest,r5,fY r6,r7⟩
end Go.Se
namespace Go.Proofs.YtghnfjfkjhbgdaaGreatDoor
open Go.Se
set_option maxRecDepth 100000
noncomputable def y6 :bU Tryz.prog:=y5
end Go.Proofs.YtghnfjfkjhbgdaaGreatDoor
namespace Go.Proofs.YtghnfjfkjhbgdaaGreatDoor
open Go.Se
set_option maxRecDepth 100000
noncomputable abbrev BT(R:List (Nat×e9×List ((Nat×List Nat)×Nat)))(u:Nat->Nat)(B:bU Tryz.prog)(n:Nat)(k:FuncId)(xs:List SV)(σ:List (Option SB))(K:KC):Prop:=
 calls (tab.env B u (fun _=>false)) (cC R) B.dom n k xs σ K
theorem zX (R:List (Nat×e9×List ((Nat×List Nat)×Nat))) (u:Nat->Nat) (B:bU Tryz.prog) (n:Nat) {k:FuncId} {xs:List SV} {σ:List (Option SB)} {v:SV} {σ':List (Option SB)} {d:List Nat}
  (hl: ∀p,p∈d->p<σ.length)
  (h:okL xs->okS σ-> ∀K:KC,(∀d',(∀p,p∈d'->p∈d)->K v σ' d')->BT R u B n k xs σ K):aD Tryz.prog k xs σ v σ' d:=
 xP (R:=R) tab B hl fun h1 h2=>h h1 h2 _ fun _ hd=>⟨rfl,rfl,hd⟩
noncomputable abbrev aCw(R:List (Nat×e9×List ((Nat×List Nat)×Nat)))(u:Nat->Nat)(B:bU Tryz.prog)(n:Nat):Env:=
 {tab.env B u (fun _=>false) with callee:=calls (tab.env B u (fun _=>false)) (cC R) B.dom n,round:=fun xs σ K=>calls.roundsN (tab.env B u (fun _=>false)) (cC R) B.dom n xs σ K}
def opR :List (Nat×e9×List ((Nat×List Nat)×Nat)):=[(0,⟨[3,10,11,12],[0,1],[0,1,2,3,4,5,6,7,8],2,[]⟩,[((3,[0]),1)])]
def opS(L:List (List Int))(o:SV)(b:Option SB)(all i:Int):St:=⟨[(3,.ptr 0 0),(10,.ro L.length 1 (aH L)),(11,.int .i64 L.length),(12,.int .i64 i)],[(0,some (.cells bkT [o,.int .i64 all,.int .i64 0,.int .i64 0,.int .i64 0])),(1,b)],2,[0,1,2,3,4,5,6,7,8],44⟩
noncomputable abbrev opE :Env:=aCw opR (fun _=>0) y5 2
noncomputable abbrev opF :Func:=Tryz.f31
abbrev opP :List Nat:=[1,1,0,1,0]
theorem aAw(s:ByteArray)(K:KC):BT opR (fun _=>0) y5 3 31 [.str s] [] K=
 (Br (decide (s.size<=1048576)) (∃q_,bS opE (cC opR 0) opF opP 0 0 K q_ {tmps:=[(3,SV.ptr 0 0),(10,SV.ro (dX (aA s)).length 1 (aH (dX (aA s)))),(11,SV.int .i64 (↑(dX (aA s)).length:Int)),(12,SV.int .i64 0)],store:=[(0,some (SB.cells 130 [SV.nils,SV.int .i64 0,SV.int .i64 0,SV.int .i64 0,SV.int .i64 0])),(1,none)],nxt:=2,dirty:=[0,1,2,3,4,5,6,7,8],nt:=44}) (False)):=by kernel_rfl
theorem UH(L:List (List Int))(all:Int)(i:Nat)(K:Ex->St->Prop):aF opE (cC opR 0) opF opP 0 K (opS L .nils none all i)=
 (Br (decide ((↑i:Int)<(↑L.length:Int))) (Br (decide (0<=(↑i:Int))&&decide ((↑i:Int)<(↑L.length:Int))) (Br (decide ((bytesOf (L.getD (↑i:Int).toNat [])).size<=1048576)) (Br (decide ((↑(bW (aA (bytesOf (L.getD (↑i:Int).toNat [])))).length:Int)>0)) (K Ex.normal {tmps:=[(3,SV.ptr 0 0),(10,SV.ro L.length 1 (aH L)),(11,SV.int .i64 (↑L.length:Int)),(12,SV.int .i64 (IntKind.i64.wrap ((↑i:Int)+1)))],store:=[(0,some (SB.cells 130 [SV.own 1 0 2 1,SV.int .i64 (IntKind.i64.wrap (all+1)),SV.int .i64 0,SV.int .i64 0,SV.int .i64 0])),(1,some (SB.row 133 2 1 fun (i_1:Nat)=>cut [SV.int .i64 (IntKind.i64.wrap ((↑i:Int)+1)),SV.ro (bW (aA (bytesOf (L.getD (↑i:Int).toNat [])))).length 1 (aH (bW (aA (bytesOf (L.getD (↑i:Int).toNat [])))))] (i_1*2) 2))],nxt:=2,dirty:=[0,1,2,3,4,5,6,7,8],nt:=44}) (K Ex.normal {tmps:=[(3,SV.ptr 0 0),(10,SV.ro L.length 1 (aH L)),(11,SV.int .i64 (↑L.length:Int)),(12,SV.int .i64 (IntKind.i64.wrap ((↑i:Int)+1)))],store:=[(0,some (SB.cells 130 [SV.nils,SV.int .i64 (IntKind.i64.wrap (all+1)),SV.int .i64 0,SV.int .i64 0,SV.int .i64 0])),(1,none)],nxt:=2,dirty:=[0,1,2,3,4,5,6,7,8],nt:=44})) (False)) (False)) (K (Ex.exit 0) {tmps:=[(3,SV.ptr 0 0),(10,SV.ro L.length 1 (aH L)),(11,SV.int .i64 (↑L.length:Int)),(12,SV.int .i64 (↑i:Int))],store:=[(0,some (SB.cells 130 [SV.nils,SV.int .i64 all,SV.int .i64 0,SV.int .i64 0,SV.int .i64 0])),(1,none)],nxt:=2,dirty:=[0,1,2,3,4,5,6,7,8],nt:=44})):=by kernel_rfl
theorem T7(L:List (List Int))(m:Nat)(g:Nat->List SV)(all:Int)(i:Nat)(K:Ex->St->Prop):aF opE (cC opR 0) opF opP 0 K (opS L (.own 1 0 2 m) (some (.row 133 2 m g)) all i)=
 (Br (decide ((↑i:Int)<(↑L.length:Int))) (Br (decide (0<=(↑i:Int))&&decide ((↑i:Int)<(↑L.length:Int))) (Br (decide ((bytesOf (L.getD (↑i:Int).toNat [])).size<=1048576)) (Br (decide ((↑(bW (aA (bytesOf (L.getD (↑i:Int).toNat [])))).length:Int)>0)) (Br (decide ((m+1)*32<=1099511627776)&&decide (m+1<9223372036854775808)&&decide (m=m)) (K Ex.normal {tmps:=[(3,SV.ptr 0 0),(10,SV.ro L.length 1 (aH L)),(11,SV.int .i64 (↑L.length:Int)),(12,SV.int .i64 (IntKind.i64.wrap ((↑i:Int)+1)))],store:=[(0,some (SB.cells 130 [SV.own 1 0 2 (m+1),SV.int .i64 (IntKind.i64.wrap (all+1)),SV.int .i64 0,SV.int .i64 0,SV.int .i64 0])),(1,some (SB.row 133 2 (m+1) (bJ m [SV.int .i64 (IntKind.i64.wrap ((↑i:Int)+1)),SV.ro (bW (aA (bytesOf (L.getD (↑i:Int).toNat [])))).length 1 (aH (bW (aA (bytesOf (L.getD (↑i:Int).toNat [])))))] g)))],nxt:=2,dirty:=[0,1,2,3,4,5,6,7,8],nt:=44}) (False)) (K Ex.normal {tmps:=[(3,SV.ptr 0 0),(10,SV.ro L.length 1 (aH L)),(11,SV.int .i64 (↑L.length:Int)),(12,SV.int .i64 (IntKind.i64.wrap ((↑i:Int)+1)))],store:=[(0,some (SB.cells 130 [SV.own 1 0 2 m,SV.int .i64 (IntKind.i64.wrap (all+1)),SV.int .i64 0,SV.int .i64 0,SV.int .i64 0])),(1,some (SB.row 133 2 m g))],nxt:=2,dirty:=[0,1,2,3,4,5,6,7,8],nt:=44})) (False)) (False)) (K (Ex.exit 0) {tmps:=[(3,SV.ptr 0 0),(10,SV.ro L.length 1 (aH L)),(11,SV.int .i64 (↑L.length:Int)),(12,SV.int .i64 (↑i:Int))],store:=[(0,some (SB.cells 130 [SV.own 1 0 2 m,SV.int .i64 all,SV.int .i64 0,SV.int .i64 0,SV.int .i64 0])),(1,some (SB.row 133 2 m g))],nxt:=2,dirty:=[0,1,2,3,4,5,6,7,8],nt:=44})):=by kernel_rfl
theorem TE(L:List (List Int))(all:Int)(i:Nat)(K:KC):aE opE (cC opR 0) opF opP 0 K (.exit 0) (opS L .nils none all i)=
 (K (SV.ptr 0 0) [some (SB.cells 130 [SV.nils,SV.int .i64 all,SV.int .i64 0,SV.int .i64 0,SV.int .i64 0])] []):=by kernel_rfl
theorem SC(L:List (List Int))(m:Nat)(g:Nat->List SV)(all:Int)(i:Nat)(K:KC):aE opE (cC opR 0) opF opP 0 K (.exit 0) (opS L (.own 1 0 2 m) (some (.row 133 2 m g)) all i)=
 (K (SV.ptr 0 0) [some (SB.cells 130 [SV.own 1 0 2 m,SV.int .i64 all,SV.int .i64 0,SV.int .i64 0,SV.int .i64 0]),some (SB.row 133 2 m g)] []):=by kernel_rfl
abbrev QW :TypeId:=133
def opK(q:List (Int×List (List Int)))(all:Int)(K:KC):Prop:=
 (q=[]->K (.ptr 0 0) [some (.cells bkT [.nils,.int .i64 all,.int .i64 0,.int .i64 0,.int .i64 0])] [])/\
 ∀g,(∀j (h:j<q.length),g j=JJ q[j])->K (.ptr 0 0) [some (.cells bkT [.own 1 0 2 q.length,.int .i64 all,.int .i64 0,.int .i64 0,.int .i64 0]),some (.row QW 2 q.length g)] []
theorem aDK(L:List (List Int))(hL:PE L)(K:KC)(hK:opK (nbF 0 L) L.length K): ∃q,bS opE (cC opR 0) opF opP 0 0 K q (opS L .nils none 0 0):=by
 have hlen:=hL.len
 refine ⟨L.length+1,iA (fun a:List (Int×List (List Int))×SV×Option SB×Nat=>opS L a.2.1 a.2.2.1 (a.2.2.2:Nat) a.2.2.2) (fun a=>L.length - a.2.2.2)
  (fun a=>bZ QW 2 1 JJ a.1 a.2.1 a.2.2.1/\a.2.2.2<=L.length/\a.1.length<=a.2.2.2/\a.1++nbF a.2.2.2 (L.drop a.2.2.2)=nbF 0 L) ?_ (L.length+1) ([],.nils,none,0) ⟨kS,Nat.zero_le _,Nat.le_refl _,rfl⟩ (by show L.length - 0<_;omega)⟩
 rintro ⟨Q,o,b,i⟩ ⟨ht,h1,h2,h3⟩ X hX
 simp only at ht h1 h2 h3 hX|-
 obtain ⟨o1,o2⟩:=hL.at i
 have stop: ¬i<L.length->aE opE (cC opR 0) opF opP 0 K (.exit 0) (opS L o b i i):=by
  intro hi
  have hi:i=L.length:=by omega
  subst hi
  rw [R7,List.append_nil] at h3
  rcases ht with ⟨h0,rfl,rfl⟩|⟨g,hne,rfl,rfl,hg⟩
  ·rw [TE];exact hK.1 (by rw [<- h3];exact h0)
  ·rw [SC]
   subst h3
   exact hK.2 g hg
 have skip:i<L.length->bW (L.getD i [])=[]->X (opS L o b (i+1:Nat) (i+1:Nat)):=fun hi hp=>
  hX (Q,o,b,i+1) ⟨ht,hi,by show Q.length<=i+1;omega,by show Q++nbF (i+1:Nat) (L.drop (i+1))=_;rw [<- F6 hi hp];exact h3⟩ (by show L.length - (i+1)<L.length - i;omega)
 have push:i<L.length->bW (L.getD i [])≠[]-> ∀o' b',bZ QW 2 1 JJ (Q++[((i:Int)+1,bW (L.getD i []))]) o' b'->X (opS L o' b' (i+1:Nat) (i+1:Nat)):=fun hi hp o' b' ht'=>
  hX (Q++[((i:Int)+1,bW (L.getD i []))],o',b',i+1) ⟨ht',hi,by show (Q++[_]).length<=i+1;simp;omega,by show (Q++[_])++nbF (i+1:Nat) (L.drop (i+1))=_;rw [List.append_assoc,<- h3,I1 hi hp];rfl⟩ (by show L.length - (i+1)<L.length - i;omega)
 have hwi:i<L.length->IntKind.i64.wrap ((i:Int)+1)=((i+1:Nat):Int):=fun h=>aQ h (by omega)
 have hpe: ∀P:List (List Int),decide (((P.length:Nat):Int)>0)= !P.isEmpty:=fun P=>by cases P<;>simp<;>omega
 rcases ht with ⟨rfl,rfl,rfl⟩|⟨g,hne,rfl,rfl,hg⟩
 ·rw [UH]
  simp only [Int.toNat_natCast,cH o1,aO,hpe]
  refine Br.of (fun c=> ?_) fun c=>stop fun h=>of_decide_eq_false c (by omega)
  have c:i<L.length:=by have:=of_decide_eq_true c;omega
  rw [hwi c]
  refine Br.of (fun _=>Br.of (fun _=>Br.of (fun d=> ?_) fun d=> ?_) fun f=>absurd o2 (of_decide_eq_false f)) fun f=>oO c f
  ·exact push c (fun e=>by rw [e] at d;cases d) _ _ (by rw [List.nil_append];exact eU (by push_cast;rfl) rfl)
  ·exact skip c (by simpa using d)
 ·rw [T7]
  simp only [Int.toNat_natCast,cH o1,aO,hpe]
  refine Br.of (fun c=> ?_) fun c=>stop fun h=>of_decide_eq_false c (by omega)
  have c:i<L.length:=by have:=of_decide_eq_true c;omega
  rw [hwi c]
  refine Br.of (fun _=>Br.of (fun _=>Br.of (fun d=>Br.of (fun _=> ?_) fun f=> ?_) fun d=> ?_) fun f=>absurd o2 (of_decide_eq_false f)) fun f=>oO c f
  ·exact push c (fun e=>by rw [e] at d;cases d) _ _ (fR (by push_cast;rfl) rfl hg)
  ·rw [Bool.and_eq_false_iff,Bool.and_eq_false_iff] at f
   rcases f with (f|f)|f
   ·have:=of_decide_eq_false f;omega
   ·have:=of_decide_eq_false f;omega
   ·simp at f
  ·exact skip c (by simpa using d)
theorem u7{s:ByteArray}(h:s.size<=1048576):PE (dX (aA s)):=by
 have hl:=bV s
 exact ⟨by have:=HI (aA s) [];unfold dX;omega,UF (cR s) (by omega)⟩
theorem aT(s:ByteArray)(h:s.size<=1048576):aD Tryz.prog 31 [.str s] [] (.ptr 0 0) [some (.cells bkT (bkC (hJ (aA s)) (eE (aA s))))] []:=by
 have hs:Sat Tryz.prog 31 [.str s] [] (opK (nbF 0 (dX (aA s))) (dX (aA s)).length):=fun K hK=>
  cA (env:=tab.env y5 (fun _=>0) (fun _=>false)) ⟨tab.htt,y5.ok⟩ tab.mixed (fun n=>qC n opR) tab.hft 3 _ _ _ K (by
   show BT opR (fun _=>0) y5 3 31 [.str s] [] K
   rw [aAw]
   exact Br.of (fun _=>aDK _ (u7 h) K hK) fun c=>absurd h (of_decide_eq_false c))
 obtain ⟨v,σ',d,hv,hc⟩:=hs (fun v σ' d=>(nbF 0 (dX (aA s))=[]/\v= .ptr 0 0/\σ'=[some (.cells bkT [.nils,.int .i64 (dX (aA s)).length,.int .i64 0,.int .i64 0,.int .i64 0])]/\d=[])\/
   ∃g,(∀j (h:j<(nbF 0 (dX (aA s))).length),g j=JJ (nbF 0 (dX (aA s)))[j])/\v= .ptr 0 0/\σ'=[some (.cells bkT [.own 1 0 2 (nbF 0 (dX (aA s))).length,.int .i64 (dX (aA s)).length,.int .i64 0,.int .i64 0,.int .i64 0]),some (.row QW 2 (nbF 0 (dX (aA s))).length g)]/\d=[])
  ⟨fun hq=> .inl ⟨hq,rfl,rfl,rfl⟩,fun g hg=> .inr ⟨g,hg,rfl,rfl,rfl⟩⟩
 rcases hv with ⟨hq,rfl,rfl,rfl⟩|⟨g,hg,rfl,rfl,rfl⟩
 ·have:=AL (st:=2) (g:=qG []) hc
  unfold eE hJ bkC
  rw [hq]
  exact this
 ·exact B8 (g':=qG (nbF 0 (dX (aA s)))) rfl (fun i hi=>(hg i hi).trans (dM (L:=nbF 0 (dX (aA s))) hi).symm) hc
end Go.Proofs.YtghnfjfkjhbgdaaGreatDoor
namespace Go.Proofs.YtghnfjfkjhbgdaaGreatDoor
open Go.Se
set_option maxRecDepth 100000
theorem wP {B:bU Tryz.prog} {n:Nat} {k:FuncId} {xs:List SV} {σ:List (Option SB)} {Φ:KC->Prop} {u:Nat->Nat} (D:List Nat) (hl: ∀p,p∈D->p<σ.length)
  (h: ∀K:KC,Φ K->calls (tab.env B u (fun _=>false)) (aB []) B.dom n k xs σ fun v σ' d=>(∀p,p∈d->p∈D)/\K v σ' D):Sat Tryz.prog k xs σ Φ:=fun K hK=>by
 obtain ⟨v,σ',d,⟨hd,hv⟩,hc⟩:=cA (env:=tab.env B u (fun _=>false)) ⟨tab.htt,B.ok⟩ tab.mixed (fun n=>bF n []) tab.hft n k xs σ _ (h K hK)
 exact ⟨v,σ',D,hv,qD hc hd hl⟩
theorem qN{σ:List (Option SB)}{a:Option SB}: ∀p,p∈[0]->p<(a::σ).length:=fun p h=>by rw [List.mem_singleton.1 h];exact Nat.zero_lt_succ _
def aCo :List SV->List (Option SB)->Option (Bool×SV×List (Option SB)×List Nat)
 | [.str s],[]=>some (decide (s.size<=1048576),.ptr 0 0,[some (.cells 130 (bkC (hJ (aA s)) (eE (aA s))))],[])
 |_,_=>none
def cTk :List SV->List (Option SB)->KC->Prop
 | [.ptr 0 0,.str w,.int .i64 lo,.int .i64 hi],[some (.cells 130 cs)],K=> ∃(b:Bk) (all:Int),(cs=bkC all b/\aK b/\(0<=all/\all<=1048577))/\
   Br (fN b w lo hi) (K .nils [some (.cells 130 (bkC all (gB all b w lo hi)))] [0]) (K (.ro (gW b).length 1 (aH (gW b))) [some (.cells 130 (bkC all (gB all b w lo hi)))] [0])
 |_,_,_=>False
theorem ZU(xs:List SV)(σ:List (Option SB)):Sat Tryz.prog 81 xs σ (cTk xs σ):=by
 intro K hK
 unfold cTk at hK
 split at hK
 case h_2=>exact hK.elim
 obtain ⟨b,all,⟨rfl,h1,h2⟩,hK⟩:=hK
 refine wP (B:=y5) (n:=3) (u:=fun _=>0) (Φ:=fun K=>Br (fN b _ _ _) (K _ _ [0]) (K _ _ [0])) [0] qN (fun K hK=>Z3 h1 h2 (fun hN d' hd=>⟨hd, ?_⟩) fun hN d' hd=>⟨hd, ?_⟩) K hK
 ·rw [hN] at hK;exact hK
 ·rw [hN] at hK;exact hK
def cNx :List SV->List (Option SB)->KC->Prop
 | [.ptr 0 0,.str w],[some (.cells 130 cs)],K=> ∃(b:Bk) (all:Int),(cs=bkC all b/\aK b)/\K (.bool (eY b w)) [some (.cells 130 (bkC all b))] [0]
 |_,_,_=>False
theorem aAT(xs:List SV)(σ:List (Option SB)):Sat Tryz.prog 80 xs σ (cNx xs σ):=by
 intro K hK
 unfold cNx at hK
 split at hK
 case h_2=>exact hK.elim
 obtain ⟨b,all,⟨rfl,h1⟩,hK⟩:=hK
 exact wP (B:=y5) (n:=3) (u:=fun _=>0) (Φ:=fun K=>K _ _ [0]) [0] qN (fun K hK=>WK h1 ⟨p0,hK⟩) K hK
def cNm :List SV->List (Option SB)->KC->Prop
 | [.ptr 0 0,.str s],[some (.cells 130 cs)],K=> ∃(b:Bk) (all:Int),cs=bkC all b/\K (.int .i64 (tY b (aA s))) [some (.cells 130 (bkC all (jZ b (aA s))))] [0]
 |_,_,_=>False
theorem aA6(xs:List SV)(σ:List (Option SB)):Sat Tryz.prog 76 xs σ (cNm xs σ):=by
 intro K hK
 unfold cNm at hK
 split at hK
 case h_2=>exact hK.elim
 obtain ⟨b,all,rfl,hK⟩:=hK
 exact wP (B:=y5) (n:=3) (u:=fun _=>0) (Φ:=fun K=>K _ _ [0]) [0] qN (fun K hK=>aBY fun d' hd=>⟨hd,hK⟩) K hK
def cIt :List SV->List (Option SB)->KC->Prop
 | [.ptr 0 0,.str s,.int .i64 lo,.int .i64 hi],[some (.cells 130 cs)],K=> ∃(b:Bk) (all:Int),cs=bkC all b/\K (.int .i64 (jT b (aA s) lo hi)) [some (.cells 130 (bkC all (iC b (aA s) lo hi)))] [0]
 |_,_,_=>False
theorem Y6(xs:List SV)(σ:List (Option SB)):Sat Tryz.prog 41 xs σ (cIt xs σ):=by
 intro K hK
 unfold cIt at hK
 split at hK
 case h_2=>exact hK.elim
 obtain ⟨b,all,rfl,hK⟩:=hK
 exact wP (B:=y5) (n:=3) (u:=fun _=>0) (Φ:=fun K=>K _ _ [0]) [0] qN (fun K hK=>aCt fun d' hd=>⟨hd,hK⟩) K hK
def cOd :List SV->List (Option SB)->KC->Prop
 | [.ptr 0 0],[some (.cells 130 cs)],K=> ∃(b:Bk) (all:Int),cs=bkC all b/\K (.tup []) [some (.cells 130 (bkC all (wS b)))] [0]
 |_,_,_=>False
theorem Z8(xs:List SV)(σ:List (Option SB)):Sat Tryz.prog 82 xs σ (cOd xs σ):=by
 intro K hK
 unfold cOd at hK
 split at hK
 case h_2=>exact hK.elim
 obtain ⟨b,all,rfl,hK⟩:=hK
 exact wP (B:=y5) (n:=3) (u:=fun _=>0) (Φ:=fun K=>K _ _ [0]) [0] qN (fun K hK=>aBN fun d' hd=>⟨hd,hK⟩) K hK
def cEn :List SV->List (Option SB)->KC->Prop
 | [.ptr 0 0],[some (.cells 130 cs)],K=> ∃(b:Bk) (all:Int),cs=bkC all b/\K (.tup [.int .i64 (x8 b),.int .i64 (DH b)]) [some (.cells 130 (bkC all (XM b)))] [0]
 |_,_,_=>False
theorem aA3(xs:List SV)(σ:List (Option SB)):Sat Tryz.prog 42 xs σ (cEn xs σ):=by
 intro K hK
 unfold cEn at hK
 split at hK
 case h_2=>exact hK.elim
 obtain ⟨b,all,rfl,hK⟩:=hK
 exact wP (B:=y5) (n:=3) (u:=fun _=>0) (Φ:=fun K=>K _ _ [0]) [0] qN (fun K hK=>aB8 fun d' hd=>⟨hd,hK⟩) K hK
noncomputable def y7 :bU Tryz.prog:=(((((((y6).add 31 (lF aCo) (d9 fun xs σ v σ' d h=>by
  unfold aCo at h;split at h
  ·simp only [Option.some.injEq,Prod.mk.injEq] at h
   obtain ⟨h1,rfl,rfl,rfl⟩:=h
   first|exact aT h1|exact aT _ h1|exact aT _ _ h1|exact aT _ _ _ h1|exact aT _ _ _ _ h1|exact aT _ _ _ _ _ h1|exact aT _ _ _ _ _ _ h1|exact aT _ _ _ _ _ _ _ h1|exact aT _ _ _ _ _ _ _ _ h1|exact aT _ _ _ _ _ _ _ _ _ h1|exact aT _ _ _ _ _ _ _ _ _ _ h1|exact aT _ _ _ _ _ _ _ _ _ _ _ h1|exact aT _ _ _ _ _ _ _ _ _ _ _ _ h1|exact aT (of_decide_eq_true h1)|exact aT _ (of_decide_eq_true h1)|exact aT _ _ (of_decide_eq_true h1)|exact aT _ _ _ (of_decide_eq_true h1)|exact aT _ _ _ _ (of_decide_eq_true h1)|exact aT _ _ _ _ _ (of_decide_eq_true h1)|exact aT _ _ _ _ _ _ (of_decide_eq_true h1)|exact aT _ _ _ _ _ _ _ (of_decide_eq_true h1)|exact aT _ _ _ _ _ _ _ _ (of_decide_eq_true h1)|exact aT _ _ _ _ _ _ _ _ _ (of_decide_eq_true h1)|exact aT _ _ _ _ _ _ _ _ _ _ (of_decide_eq_true h1)|exact aT _ _ _ _ _ _ _ _ _ _ _ (of_decide_eq_true h1)|exact aT _ _ _ _ _ _ _ _ _ _ _ _ (of_decide_eq_true h1)
  ·cases h)).add 81 cTk ZU).add 80 cNx aAT).add 76 cNm aA6).add 41 cIt Y6).add 82 cOd Z8).add 42 cEn aA3
end Go.Proofs.YtghnfjfkjhbgdaaGreatDoor
namespace Go.Proofs.YtghnfjfkjhbgdaaGreatDoor
open Go.Se
set_option maxRecDepth 100000
theorem aC8(b:Bk)(all:Int)(s a c e f:ByteArray)(t:TypeId)(K:KC):oA 6 y5 3 83 [.ptr 0 0,.str s,.arr 1 0 4 4] [some (.cells bkT (bkC all b)),some (.cells t [.str a,.str c,.str e,.str f])] K=
 (Br (!b.err==0) (K (SV.int .i64 0) [some (SB.cells 130 [SV.ro b.q.length 2 (qG b.q),SV.int .i64 all,SV.int .i64 b.last,SV.int .i64 b.err,SV.int .i64 b.place]),some (SB.cells t [SV.str a,SV.str c,SV.str e,SV.str f])] []) (Br (s==a) (K (SV.int .i64 0) [some (SB.cells 130 [SV.ro b.q.length 2 (qG b.q),SV.int .i64 all,SV.int .i64 b.last,SV.int .i64 b.err,SV.int .i64 b.place]),some (SB.cells t [SV.str a,SV.str c,SV.str e,SV.str f])] []) (Br (s==c) (K (SV.int .i64 1) [some (SB.cells 130 [SV.ro b.q.length 2 (qG b.q),SV.int .i64 all,SV.int .i64 b.last,SV.int .i64 b.err,SV.int .i64 b.place]),some (SB.cells t [SV.str a,SV.str c,SV.str e,SV.str f])] []) (Br (s==e) (K (SV.int .i64 2) [some (SB.cells 130 [SV.ro b.q.length 2 (qG b.q),SV.int .i64 all,SV.int .i64 b.last,SV.int .i64 b.err,SV.int .i64 b.place]),some (SB.cells t [SV.str a,SV.str c,SV.str e,SV.str f])] []) (Br (s==f) (K (SV.int .i64 3) [some (SB.cells 130 [SV.ro b.q.length 2 (qG b.q),SV.int .i64 all,SV.int .i64 b.last,SV.int .i64 b.err,SV.int .i64 b.place]),some (SB.cells t [SV.str a,SV.str c,SV.str e,SV.str f])] []) (Br (b.err==0) (K (SV.int .i64 0) [some (SB.cells 130 [SV.ro b.q.length 2 (qG b.q),SV.int .i64 all,SV.int .i64 b.last,SV.int .i64 24,SV.int .i64 b.last]),some (SB.cells t [SV.str a,SV.str c,SV.str e,SV.str f])] [0]) (K (SV.int .i64 0) [some (SB.cells 130 [SV.ro b.q.length 2 (qG b.q),SV.int .i64 all,SV.int .i64 b.last,SV.int .i64 b.err,SV.int .i64 b.place]),some (SB.cells t [SV.str a,SV.str c,SV.str e,SV.str f])] []))))))):=by kernel_rfl
theorem W4{b:Bk}{all:Int}{s a:ByteArray}{t:TypeId}{K:KC}(hK: ∀d',(∀p,p∈d'->p∈[0])->K (.int .i64 (oJ b s [a])) [some (.cells bkT (bkC all (jS b s [a]))),some (.cells t [.str a])] d'):
  oA 3 y5 3 83 [.ptr 0 0,.str s,.arr 1 0 1 1] [some (.cells bkT (bkC all b)),some (.cells t [.str a])] K:=by
 rw [aCW]
 cases hc:b.err==0 with
 |false=>
  obtain ⟨t1,t2⟩:=IL (s:=s) (ws:=[a]) hc
  rw [t1,t2] at hK;exact hK [] p0
 |true=>
  refine Br.of (fun e=>by cases e) fun _=> ?_
  refine Br.of (fun h=> ?_) fun h0=> ?_
  ·obtain ⟨t1,t2⟩:=j0 (ws:=[a]) (j:=0) hc (by rw [pP h]) (by simp)
   rw [t1,t2] at hK;exact hK [] p0
  obtain ⟨t1,t2⟩:=DJ (ws:=[a]) hc (by rw [iD h0];rfl)
  rw [t1,t2] at hK
  exact Br.of (fun _=>hK [0] DN) fun e=>by cases e
theorem aAz{b:Bk}{all:Int}{s a c:ByteArray}{t:TypeId}{K:KC}(hK: ∀d',(∀p,p∈d'->p∈[0])->K (.int .i64 (oJ b s [a,c])) [some (.cells bkT (bkC all (jS b s [a,c]))),some (.cells t [.str a,.str c])] d'):
  oA 4 y5 3 83 [.ptr 0 0,.str s,.arr 1 0 2 2] [some (.cells bkT (bkC all b)),some (.cells t [.str a,.str c])] K:=by
 rw [aCv]
 cases hc:b.err==0 with
 |false=>
  obtain ⟨t1,t2⟩:=IL (s:=s) (ws:=[a,c]) hc
  rw [t1,t2] at hK;exact hK [] p0
 |true=>
  refine Br.of (fun e=>by cases e) fun _=> ?_
  refine Br.of (fun h=> ?_) fun h0=> ?_
  ·obtain ⟨t1,t2⟩:=j0 (ws:=[a,c]) (j:=0) hc (by rw [pP h]) (by simp)
   rw [t1,t2] at hK;exact hK [] p0
  refine Br.of (fun h=> ?_) fun h1=> ?_
  ·obtain ⟨t1,t2⟩:=j0 (ws:=[a,c]) (j:=1) hc (by rw [iD h0,pP h]) (by simp)
   rw [t1,t2] at hK;exact hK [] p0
  obtain ⟨t1,t2⟩:=DJ (ws:=[a,c]) hc (by rw [iD h0,iD h1];rfl)
  rw [t1,t2] at hK
  exact Br.of (fun _=>hK [0] DN) fun e=>by cases e
theorem aAh{b:Bk}{all:Int}{s a c e f:ByteArray}{t:TypeId}{K:KC}(hK: ∀d',(∀p,p∈d'->p∈[0])->K (.int .i64 (oJ b s [a,c,e,f])) [some (.cells bkT (bkC all (jS b s [a,c,e,f]))),some (.cells t [.str a,.str c,.str e,.str f])] d'):
  oA 6 y5 3 83 [.ptr 0 0,.str s,.arr 1 0 4 4] [some (.cells bkT (bkC all b)),some (.cells t [.str a,.str c,.str e,.str f])] K:=by
 rw [aC8]
 cases hc:b.err==0 with
 |false=>
  obtain ⟨t1,t2⟩:=IL (s:=s) (ws:=[a,c,e,f]) hc
  rw [t1,t2] at hK;exact hK [] p0
 |true=>
  refine Br.of (fun e=>by cases e) fun _=> ?_
  refine Br.of (fun h=> ?_) fun h0=> ?_
  ·obtain ⟨t1,t2⟩:=j0 (ws:=[a,c,e,f]) (j:=0) hc (by rw [pP h]) (by simp)
   rw [t1,t2] at hK;exact hK [] p0
  refine Br.of (fun h=> ?_) fun h1=> ?_
  ·obtain ⟨t1,t2⟩:=j0 (ws:=[a,c,e,f]) (j:=1) hc (by rw [iD h0,pP h]) (by simp)
   rw [t1,t2] at hK;exact hK [] p0
  refine Br.of (fun h=> ?_) fun h2=> ?_
  ·obtain ⟨t1,t2⟩:=j0 (ws:=[a,c,e,f]) (j:=2) hc (by rw [iD h0,iD h1,pP h]) (by simp)
   rw [t1,t2] at hK;exact hK [] p0
  refine Br.of (fun h=> ?_) fun h3=> ?_
  ·obtain ⟨t1,t2⟩:=j0 (ws:=[a,c,e,f]) (j:=3) hc (by rw [iD h0,iD h1,iD h2,pP h]) (by simp)
   rw [t1,t2] at hK;exact hK [] p0
  obtain ⟨t1,t2⟩:=DJ (ws:=[a,c,e,f]) hc (by rw [iD h0,iD h1,iD h2,iD h3];rfl)
  rw [t1,t2] at hK
  exact Br.of (fun _=>hK [0] DN) fun e=>by cases e
def cOn :List SV->List (Option SB)->KC->Prop
 | [.ptr 0 0,.str s,.arr 1 0 1 1],[some (.cells 130 cs),some (.cells t [.str a])],K=> ∃(b:Bk) (all:Int),cs=bkC all b/\K (.int .i64 (oJ b s [a])) [some (.cells 130 (bkC all (jS b s [a]))),some (.cells t [.str a])] [0]
 | [.ptr 0 0,.str s,.arr 1 0 2 2],[some (.cells 130 cs),some (.cells t [.str a,.str c])],K=> ∃(b:Bk) (all:Int),cs=bkC all b/\K (.int .i64 (oJ b s [a,c])) [some (.cells 130 (bkC all (jS b s [a,c]))),some (.cells t [.str a,.str c])] [0]
 | [.ptr 0 0,.str s,.arr 1 0 4 4],[some (.cells 130 cs),some (.cells t [.str a,.str c,.str e,.str f])],K=> ∃(b:Bk) (all:Int),cs=bkC all b/\K (.int .i64 (oJ b s [a,c,e,f])) [some (.cells 130 (bkC all (jS b s [a,c,e,f]))),some (.cells t [.str a,.str c,.str e,.str f])] [0]
 |_,_,_=>False
theorem aAa(xs:List SV)(σ:List (Option SB)):Sat Tryz.prog 83 xs σ (cOn xs σ):=by
 intro K hK
 unfold cOn at hK
 split at hK
 case h_4=>exact hK.elim
 all_goals obtain ⟨b,all,rfl,hK⟩:=hK
 ·exact wP (B:=y5) (n:=3) (u:=fun _=>3) (Φ:=fun K=>K _ _ [0]) [0] qN (fun K hK=>W4 fun d' hd=>⟨hd,hK⟩) K hK
 ·exact wP (B:=y5) (n:=3) (u:=fun _=>4) (Φ:=fun K=>K _ _ [0]) [0] qN (fun K hK=>aAz fun d' hd=>⟨hd,hK⟩) K hK
 ·exact wP (B:=y5) (n:=3) (u:=fun _=>6) (Φ:=fun K=>K _ _ [0]) [0] qN (fun K hK=>aAh fun d' hd=>⟨hd,hK⟩) K hK
noncomputable def y8 :bU Tryz.prog:=(y7).add 83 cOn aAa
end Go.Proofs.YtghnfjfkjhbgdaaGreatDoor
namespace Go.Se
structure Trk where
 rate:Int
 cell:Int
 cols:Int
 rows:Int
 cx:Int
 cy:Int
 nh:Nat
 h:Nat->Int
 ng:Nat
 g:Nat->Int
 nk:Nat
 kg:Nat->Int
 kd:Nat->Int
 ko:Nat->Bool
 nl:Nat
 lx:Nat->Int
 ly:Nat->Int
 nr:Nat
 rn:Nat->Nat
 rx:Nat->Nat->Int
 ry:Nat->Nat->Int
 nt:Nat
 ax:Nat->Int
 ay:Nat->Int
 bx:Nat->Int
 sb:Nat->Int
 sp:Nat->Bool
 sx:Int
 sy:Int
 head:Int
 laps:Int
def bT(x y:Nat->Int):Nat->List SV:=fun k=>[.int .i64 (x k),.int .i64 (y k)]
def cB(t:Trk):Nat->List SV:=fun i=>[.ro (t.rn i) 2 (bT (t.rx i) (t.ry i))]
def eN(t:Trk):Nat->List SV:=fun i=>[.int .i64 (t.ax i),.int .i64 (t.ay i),.int .i64 (t.bx i),.int .i64 (t.sb i),.bool (t.sp i)]
def eS(t:Trk):Nat->List SV:=fun i=>[.int .i64 (t.kg i),.int .i64 (t.kd i),.bool (t.ko i)]
def aM(x:Nat->Int):Nat->List SV:=fun i=>[.int .i64 (x i)]
def aU(t:Trk):List SV:=
 [.int .i64 t.rate,.int .i64 t.cell,.int .i64 t.cols,.int .i64 t.rows,.int .i64 t.cx,.int .i64 t.cy,.ro t.nh 1 (aM t.h),.ro t.ng 1 (aM t.g),.ro t.nk 3 (eS t),.ro t.nl 2 (bT t.lx t.ly),
  .ro t.nr 1 (cB t),.ro t.nt 5 (eN t),.int .i64 t.sx,.int .i64 t.sy,.int .u32 t.head,.int .i64 t.laps]
abbrev Bar :=Int×Int×Int×Int×Int
def bsv(b:Bar):List SV:=[.int .i64 b.1,.int .i64 b.2.1,.int .i64 b.2.2.1,.int .i64 b.2.2.2.1,.int .i64 b.2.2.2.2]
def aAC(t:Trk)(i k:Nat):Bar:=(t.rx i k,t.ry i k,t.rx i (k+1),t.ry i (k+1),(i:Int))
def aF6(l:List Bar):List SV:=l.flatMap bsv
end Go.Se
namespace Go.Se
def sI(x y:Int):Bool:=decide ((if y>x then y else x)>281474976710656)||decide ((if y<x then y else x)< -281474976710656)
def bD(X Y:Nat->Int):Nat->List SV:=fun i=>[.int .i64 (X i),.int .i64 (Y i)]
def px :List SV->Int
 | .int _ x::_=>x
 |_=>0
def py :List SV->Int
 |_:: .int _ y::_=>y
 |_=>0
def pts(get:Nat->List SV):Prop:= ∀i,get i=[.int .i64 (px (get i)),.int .i64 (py (get i))]
theorem yC{get:Nat->List SV}(h:pts get):get=bD (fun i=>px (get i)) (fun i=>py (get i)):=funext h
end Go.Se
namespace Go.Se
end Go.Se
namespace Go.Se
def zD(n d:Int):Int:=(n+d - 1)/d
def sX(ax ay bx ey x y:Int):Int:=(bx - ax)*(y - ay) - (ey - ay)*(x - ax)
def vD(ax ay bx ey x y:Int):Int:=(bx - ax)*(x - ax)+(ey - ay)*(y - ay)
def EN(ax ay bx ey x y:Int):Bool:=sI ax ay||(sI bx ey||sI x y)
def O8(ax ay bx ey x y:Int):Int:=
 bif EN ax ay bx ey x y then 0
 else bif decide (0<=sX ax ay bx ey x y)||(decide (vD ax ay bx ey x y<0)||decide (vD bx ey ax ay x y<0)) then 0
 else zD (-sX ax ay bx ey x y) (iG (vD ax ay bx ey bx ey))
theorem BQ{x y:Int}:sI x y=false↔(-281474976710656<=x/\x<=281474976710656)/\(-281474976710656<=y/\y<=281474976710656):=by
 unfold sI
 simp only [Bool.or_eq_false_iff,decide_eq_false_iff_not]
 split<;>split<;>omega
theorem A9{a b N M:Int}(h1: -N<=a)(h2:a<=N)(h3: -M<=b)(h4:b<=M): -(N*M)<=a*b/\a*b<=N*M:=by
 have e1:=Int.mul_nonneg (show 0<=N - a by omega) (show 0<=M+b by omega)
 have e2:=Int.mul_nonneg (show 0<=N+a by omega) (show 0<=M - b by omega)
 have e3:=Int.mul_nonneg (show 0<=N - a by omega) (show 0<=M - b by omega)
 have e4:=Int.mul_nonneg (show 0<=N+a by omega) (show 0<=M+b by omega)
 simp only [Int.sub_mul,Int.add_mul,Int.mul_add,Int.mul_sub] at e1 e2 e3 e4
 omega
theorem yZ{a b:Int}(h1: -562949953421312<=a)(h2:a<=562949953421312)(h3: -562949953421312<=b)(h4:b<=562949953421312):
  -316912650057057350374175801344<=a*b/\a*b<=316912650057057350374175801344:=by
 have:=A9 h1 h2 h3 h4
 omega
theorem qO{A L q:Int}(hL:0<L)(h1:(q - 1)*L<A)(h2:A<=q*L):zD A L=q:=by
 unfold zD
 have a1:q<=(A+L - 1)/L:=by
  rw [Int.le_ediv_iff_mul_le hL]
  rw [Int.sub_mul] at h1;omega
 have a2:(A+L - 1)/L<q+1:=by
  rw [Int.ediv_lt_iff_lt_mul hL,Int.add_mul];omega
 omega
theorem XS{A L:Int}(_hA:0<=A)(hL:0<L):(bif decide (iX A L*L<A) then iX A L+1 else iX A L)=zD A L:=by
 have h1:=Int.ediv_mul_add_emod A L
 have h2:=Int.emod_nonneg A (show L≠0 by omega)
 have h3:=Int.emod_lt_of_pos A hL
 unfold iX
 cases hc:(decide (A%L>L - A%L)||(A%L==L - A%L&&A/L%2==1))&&decide (A%L>0) with
 |true=>
  simp only [Bool.and_eq_true,decide_eq_true_eq] at hc
  simp only [cond_true]
  have e:(A/L+1)*L=A/L*L+L:=by rw [Int.add_mul,Int.one_mul]
  rw [decide_eq_false (by omega)]
  simp only [cond_false]
  exact (qO hL (by rw [show A/L+1 - 1=A/L by omega];omega) (by omega)).symm
 |false=>
  simp only [cond_false]
  cases hd:decide (A/L*L<A) with
  |true=>
   have hd':=of_decide_eq_true hd
   have e:(A/L+1)*L=A/L*L+L:=by rw [Int.add_mul,Int.one_mul]
   simp only [cond_true]
   exact (qO hL (by rw [show A/L+1 - 1=A/L by omega];omega) (by omega)).symm
  |false=>
   have hd':=of_decide_eq_false hd
   have e:(A/L - 1)*L=A/L*L - L:=by rw [Int.sub_mul,Int.one_mul]
   simp only [cond_false]
   exact (qO hL (by omega) (by omega)).symm
theorem ON{x y:Int}(hx: -562949953421312<=x/\x<=562949953421312)(hy: -562949953421312<=y/\y<=562949953421312):
  (-iG (x*x+y*y)<=x/\x<=iG (x*x+y*y))/\(-iG (x*x+y*y)<=y/\y<=iG (x*x+y*y))/\0<=iG (x*x+y*y)/\iG (x*x+y*y)<=1125899906842624:=by
 have m1:=yZ hx.1 hx.2 hx.1 hx.2
 have m2:=yZ hy.1 hy.2 hy.1 hy.2
 have s1:=Y8 x
 have s2:=Y8 y
 obtain ⟨r0,_,r1,r2⟩:=YP (N:=x*x+y*y) (by omega) (by omega)
 generalize iG (x*x+y*y)=L at*
 have key: ∀z:Int,z*z<=x*x+y*y->  -L<=z/\z<=L:=by
  intro z hz
  constructor
  ·refine Int.not_lt.1 fun h=> ?_
   have:=Int.mul_le_mul (show L+1<=  -z by omega) (show L+1<=  -z by omega) (by omega) (by omega)
   rw [Int.neg_mul_neg] at this;omega
  ·refine Int.not_lt.1 fun h=> ?_
   have:=Int.mul_le_mul (show L+1<=z by omega) (show L+1<=z by omega) (by omega) (by omega)
   omega
 refine ⟨key x (by omega),key y (by omega),r0,Int.not_lt.1 fun h=> ?_⟩
 have:=Int.mul_le_mul (show (1125899906842625:Int)<=L by omega) (show (1125899906842625:Int)<=L by omega) (by omega) (by omega)
 omega
theorem tN{ax ay bx ey x y:Int}(h:EN ax ay bx ey x y=false):
  ((-562949953421312<=bx - ax/\bx - ax<=562949953421312)/\(-562949953421312<=ey - ay/\ey - ay<=562949953421312))/\
  ((-562949953421312<=x - ax/\x - ax<=562949953421312)/\(-562949953421312<=y - ay/\y - ay<=562949953421312))/\
  ((-562949953421312<=x - bx/\x - bx<=562949953421312)/\(-562949953421312<=y - ey/\y - ey<=562949953421312)):=by
 unfold EN at h
 rw [Bool.or_eq_false_iff,Bool.or_eq_false_iff] at h
 obtain ⟨h1,h2,h3⟩:=h
 have:=BQ.1 h1
 have:=BQ.1 h2
 have:=BQ.1 h3
 omega
theorem NS{ax ay bx ey x y:Int}(h:EN ax ay bx ey x y=false): -633825300114114700748351602688<=sX ax ay bx ey x y/\sX ax ay bx ey x y<=633825300114114700748351602688:=by
 obtain ⟨⟨h1,h2⟩,⟨h3,h4⟩,_⟩:=tN h
 have m1:=yZ h1.1 h1.2 h4.1 h4.2
 have m2:=yZ h2.1 h2.2 h3.1 h3.2
 unfold sX;omega
theorem U1{ax ay bx ey x y:Int}(h:EN ax ay bx ey x y=false)(hA:sX ax ay bx ey x y<0):
  0<iG (vD ax ay bx ey bx ey)/\iG (vD ax ay bx ey bx ey)<=1125899906842624/\  -sX ax ay bx ey x y<=1125899906842624*iG (vD ax ay bx ey bx ey):=by
 obtain ⟨⟨h1,h2⟩,⟨h3,h4⟩,_⟩:=tN h
 obtain ⟨l1,l2,l3,l4⟩:=ON h1 h2
 unfold vD
 generalize iG ((bx - ax)*(bx - ax)+(ey - ay)*(ey - ay))=L at*
 have m1:=A9 l1.1 l1.2 h4.1 h4.2
 have m2:=A9 l2.1 l2.2 h3.1 h3.2
 unfold sX at hA|-
 have:0<L:=by
  refine Int.not_le.1 fun h0=> ?_
  have:L=0:=by omega
  subst this
  omega
 omega
end Go.Se
namespace Go.Se
def wvw(p:Int):Int:=wv (p/18446744073709551616) (p%18446744073709551616)
theorem qH(p:Int):wvw p=p:=qJ p
def aBM(p q:Int):Int:=bif fS (wvw p+wvw q) then wvw p+wvw q else 0
def aC6(p:Int):Int:=bif fS (-wvw p) then -wvw p else 0
theorem RT{p q:Int}(h: -170141183460469231731687303715884105728<=p+q)(h':p+q<170141183460469231731687303715884105728):aBM p q=p+q:=by
 unfold aBM;rw [qH,qH,show fS (p+q)=true from (xF _).2 ⟨h,h'⟩];rfl
theorem R4{p:Int}(h: -170141183460469231731687303715884105728<p)(h':p<170141183460469231731687303715884105728):aC6 p= -p:=by
 unfold aC6;rw [qH,show fS (-p)=true from (xF _).2 ⟨by omega,by omega⟩];rfl
def w64(x:Int):Int:=IntKind.i64.wrap x
theorem s7{x:Int}(h: -9223372036854775808<=x)(h':x<=9223372036854775807):w64 x=x:=by unfold w64;rw [g7];omega
def N7(ux uy vx vy:Int):Int:=aBM (ux*vx) (uy*vy)
def DK(ux uy vx vy:Int):Int:=aBM (ux*vy) (aC6 (uy*vx))
def A1(ax ay bx ey x y:Int):Int:=DK (w64 (bx - ax)) (w64 (ey - ay)) (w64 (x - ax)) (w64 (y - ay))
def EW(ax ay bx ey x y:Int):Int:=N7 (w64 (bx - ax)) (w64 (ey - ay)) (w64 (x - ax)) (w64 (y - ay))
theorem WP{ax ay bx ey x y:Int}(h:EN ax ay bx ey x y=false):A1 ax ay bx ey x y=sX ax ay bx ey x y:=by
 obtain ⟨⟨h1,h2⟩,⟨h3,h4⟩,_⟩:=tN h
 have m1:=yZ h1.1 h1.2 h4.1 h4.2
 have m2:=yZ h2.1 h2.2 h3.1 h3.2
 unfold A1 DK sX
 rw [s7 (by omega) (by omega),s7 (by omega) (by omega),s7 (by omega) (by omega),s7 (by omega) (by omega),R4 (by omega) (by omega),RT (by omega) (by omega)]
 omega
theorem CD {ax ay bx ey x y:Int} (h1: -562949953421312<=bx - ax/\bx - ax<=562949953421312) (h2: -562949953421312<=ey - ay/\ey - ay<=562949953421312)
  (h3: -562949953421312<=x - ax/\x - ax<=562949953421312) (h4: -562949953421312<=y - ay/\y - ay<=562949953421312):EW ax ay bx ey x y=vD ax ay bx ey x y:=by
 have m1:=yZ h1.1 h1.2 h3.1 h3.2
 have m2:=yZ h2.1 h2.2 h4.1 h4.2
 unfold EW N7 vD
 rw [s7 (by omega) (by omega),s7 (by omega) (by omega),s7 (by omega) (by omega),s7 (by omega) (by omega),RT (by omega) (by omega)]
theorem IC{x:Int}:decide (mL x 0>=0)=decide (0<=x):=by
 unfold mL
 cases h:decide (x<0)
 ·have h':=of_decide_eq_false h
  rw [decide_eq_true (show 0<=x by omega)]
  simp only [cond_false];cases decide (0<x)<;>rfl
 ·have h':=of_decide_eq_true h
  rw [decide_eq_false (show¬0<=x by omega)];rfl
end Go.Se
namespace Go.Se
def pz :List SV->Bool
 |_::_:: .bool b::_=>b
 |_=>false
def qR(g:Nat->List SV):Prop:= ∀i,g i=[.int .i64 (px (g i))]
theorem vM{g:Nat->List SV}(h:qR g):g=aM (fun i=>px (g i)):=funext h
def IS(g:Nat->List SV):Prop:= ∀i,g i=[.int .i64 (px (g i)),.int .i64 (py (g i)),.bool (pz (g i))]
def R8(a b:Nat->Int)(o:Nat->Bool):Nat->List SV:=fun i=>[.int .i64 (a i),.int .i64 (b i),.bool (o i)]
theorem XQ{g:Nat->List SV}(h:IS g):g=R8 (fun i=>px (g i)) (fun i=>py (g i)) (fun i=>pz (g i)):=funext h
def aCK :List SV->Nat
 | .ro n _ _::_=>n
 |_=>0
def aCV :List SV->Nat->List SV
 | .ro _ _ g::_=>g
 |_=>fun _=>[]
def at3 :List SV->Int
 |_::_:: .int _ x::_=>x
 |_=>0
def at4 :List SV->Int
 |_::_::_:: .int _ x::_=>x
 |_=>0
def at5 :List SV->Bool
 |_::_::_::_:: .bool x::_=>x
 |_=>false
def aEo(g:Nat->List SV):Prop:= ∀i,g i=[.ro (aCK (g i)) 2 (bT (fun k=>px (aCV (g i) k)) (fun k=>py (aCV (g i) k)))]
def aEk(g:Nat->List SV):Prop:= ∀i,g i=[.int .i64 (px (g i)),.int .i64 (py (g i)),.int .i64 (at3 (g i)),.int .i64 (at4 (g i)),.bool (at5 (g i))]
def mG(a0 a1 a2 a3 a4 a5:Int)(nh:Nat)(h:Nat->List SV)(ng:Nat)(g:Nat->List SV)(nk:Nat)(kg:Nat->List SV)(nl:Nat)(l:Nat->List SV)(nr:Nat)(rl:Nat->List SV)(nt:Nat)(gt:Nat->List SV)(sx sy hd lp:Int):Trk where
 rate:=a0
 cell:=a1
 cols:=a2
 rows:=a3
 cx:=a4
 cy:=a5
 nh:=nh
 h:=fun i=>px (h i)
 ng:=ng
 g:=fun i=>px (g i)
 nk:=nk
 kg:=fun i=>px (kg i)
 kd:=fun i=>py (kg i)
 ko:=fun i=>pz (kg i)
 nl:=nl
 lx:=fun i=>px (l i)
 ly:=fun i=>py (l i)
 nr:=nr
 rn:=fun i=>aCK (rl i)
 rx:=fun i k=>px (aCV (rl i) k)
 ry:=fun i k=>py (aCV (rl i) k)
 nt:=nt
 ax:=fun i=>px (gt i)
 ay:=fun i=>py (gt i)
 bx:=fun i=>at3 (gt i)
 sb:=fun i=>at4 (gt i)
 sp:=fun i=>at5 (gt i)
 sx:=sx
 sy:=sy
 head:=hd
 laps:=lp
def lY(h g kg l rl gt:Nat->List SV):Prop:=qR h/\qR g/\IS kg/\pts l/\aEo rl/\aEk gt
theorem nM{h g kg l rl gt:Nat->List SV}(hs:lY h g kg l rl gt)(a0 a1 a2 a3 a4 a5:Int)(nh ng nk nl nr nt:Nat)(sx sy hd lp:Int):
  [SV.int .i64 a0,.int .i64 a1,.int .i64 a2,.int .i64 a3,.int .i64 a4,.int .i64 a5,.ro nh 1 h,.ro ng 1 g,.ro nk 3 kg,.ro nl 2 l,.ro nr 1 rl,.ro nt 5 gt,.int .i64 sx,.int .i64 sy,.int .u32 hd,.int .i64 lp]=
   aU (mG a0 a1 a2 a3 a4 a5 nh h ng g nk kg nl l nr rl nt gt sx sy hd lp):=by
 obtain ⟨h1,h2,h3,h4,h5,h6⟩:=hs
 have e1:h=aM (fun i=>px (h i)):=funext h1
 have e2:g=aM (fun i=>px (g i)):=funext h2
 have e3:kg=eS (mG a0 a1 a2 a3 a4 a5 nh h ng g nk kg nl l nr rl nt gt sx sy hd lp):=funext h3
 have e4:l=bT (fun i=>px (l i)) (fun i=>py (l i)):=funext h4
 have e5:rl=cB (mG a0 a1 a2 a3 a4 a5 nh h ng g nk kg nl l nr rl nt gt sx sy hd lp):=funext h5
 have e6:gt=eN (mG a0 a1 a2 a3 a4 a5 nh h ng g nk kg nl l nr rl nt gt sx sy hd lp):=funext h6
 unfold aU
 rw [<- e3,<- e5,<- e6]
 show [SV.int .i64 a0,.int .i64 a1,.int .i64 a2,.int .i64 a3,.int .i64 a4,.int .i64 a5,.ro nh 1 h,.ro ng 1 g,.ro nk 3 kg,.ro nl 2 l,.ro nr 1 rl,.ro nt 5 gt,.int .i64 sx,.int .i64 sy,.int .u32 hd,.int .i64 lp]=[SV.int .i64 a0,.int .i64 a1,.int .i64 a2,.int .i64 a3,.int .i64 a4,.int .i64 a5,.ro nh 1 (aM (fun i=>px (h i))),.ro ng 1 (aM (fun i=>px (g i))),.ro nk 3 kg,.ro nl 2 (bT (fun i=>px (l i)) (fun i=>py (l i))),.ro nr 1 rl,.ro nt 5 gt,.int .i64 sx,.int .i64 sy,.int .u32 hd,.int .i64 lp]
 rw [<- e1,<- e2,<- e4]
theorem gJ(t:Trk):lY (aM t.h) (aM t.g) (eS t) (bT t.lx t.ly) (cB t) (eN t):=
 ⟨fun _=>rfl,fun _=>rfl,fun _=>rfl,fun _=>rfl,fun _=>rfl,fun _=>rfl⟩
def eM(m x:Int):Bool:=decide (x>m)||decide (x<IntKind.i64.wrap (0 - m))
def uC(x y:Int):Bool:=decide ((if y>x then y else x)>140737488355328)||decide ((if y<x then y else x)< -140737488355328)
def uH(n:Nat)(k:Int):Bool:=decide (k<0)||decide (k>=n)
def EP(g d:Int):Bool:=decide ((if d<g then d else g)<0)||(decide (g>8589934592)||decide (d>4294967296))
theorem zW{K:KC}{c a b:Bool}{σ:List (Option SB)}{d:List Nat}:Br c (K (.bool a) σ d) (K (.bool b) σ d)=K (.bool (bif c then a else b)) σ d:=by cases c<;>rfl
theorem aB4{K:KC}{a b:Bool}{σ:List (Option SB)}{d:List Nat}(h:K (.bool a) σ d)(e:b=a):K (.bool b) σ d:=e▸h
def lG(cols rows:Int)(nh ng nk:Nat):Bool:=
 decide (1<=cols/\cols<=64/\1<=rows/\rows<=64/\1<=nk/\nk<=8)&&((nh:Int)==IntKind.i64.wrap (IntKind.i64.wrap (cols+1)*IntKind.i64.wrap (rows+1))&&(ng:Int)==IntKind.i64.wrap (cols*rows))
theorem uG{cols rows:Int}{nh ng nk:Nat}(h:lG cols rows nh ng nk=true):((1<=cols/\cols<=64)/\(1<=rows/\rows<=64)/\(1<=nk/\nk<=8))/\
  (nh:Int)=(cols+1)*(rows+1)/\(ng:Int)=cols*rows/\nh=(cols+1).toNat*(rows+1).toNat/\nh<=4225/\ng<=4096:=by
 unfold lG at h
 simp only [Bool.and_eq_true,decide_eq_true_eq,beq_iff_eq] at h
 obtain ⟨⟨h1,h2,h3,h4,h5,h6⟩,h7,h8⟩:=h
 have m1:=A9 (a:=cols+1) (b:=rows+1) (N:=65) (M:=65) (by omega) (by omega) (by omega) (by omega)
 have m2:=A9 (a:=cols) (b:=rows) (N:=64) (M:=64) (by omega) (by omega) (by omega) (by omega)
 have hw: ∀x:Int,-10000<=x->x<=10000->IntKind.i64.wrap x=x:=fun x _ _=>by rw [IntKind.wrap_i64];omega
 rw [hw (cols+1) (by omega) (by omega),hw (rows+1) (by omega) (by omega),hw _ (by omega) (by omega)] at h7
 rw [hw _ (by omega) (by omega)] at h8
 refine ⟨⟨⟨h1,h2⟩,⟨h3,h4⟩,h5,h6⟩,h7,h8, ?_,by omega,by omega⟩
 have e1:((cols+1).toNat:Int)=cols+1:=Int.toNat_of_nonneg (by omega)
 have e2:((rows+1).toNat:Int)=rows+1:=Int.toNat_of_nonneg (by omega)
 apply Int.ofNat.inj
 show (nh:Int)=(((cols+1).toNat*(rows+1).toNat:Nat):Int)
 rw [Int.natCast_mul,e1,e2];exact h7
def lW(h:Nat->Int)(cell:Int)(w n i:Nat):Bool:=
 (decide ((i+1)%w≠0)&&eM cell (IntKind.i64.wrap (h (i+1) - h i)))||(decide (i+w<n)&&eM cell (IntKind.i64.wrap (h (i+w) - h i)))
theorem LF{n:Nat}(h:n<9223372036854775808):IntKind.i64.wrap (n:Int)=(n:Int):=by rw [IntKind.wrap_i64];omega
theorem ZV(a b:Nat):((a:Int).tmod (b:Int))=((a%b:Nat):Int):=by rw [Int.tmod_eq_emod_of_nonneg (Int.natCast_nonneg a)];exact (Int.natCast_emod a b).symm
theorem RD(a:Nat):((a:Int) !=0)=decide (a≠0):=by
 cases a with
 |zero=>rfl
 |succ n=>rw [decide_eq_true (Nat.succ_ne_zero n),bne_iff_ne];omega
theorem orQ{K:KC}{a b:Bool}{σ:List (Option SB)}{d:List Nat}(h:K (.bool (a||b)) σ d):Br a (K (.bool true) σ d) (K (.bool b) σ d):=
 Br.of (fun c=>by rw [c] at h;exact h) fun c=>by rw [c] at h;exact h
def mO(t:Trk):Bool:=
 decide (t.cell<17179869184)||(decide (t.cell>274877906944)||((eM 140737488355328 t.cx||eM 140737488355328 t.cy)||(i1 (fun i=>eM 2199023255552 (t.h i)) t.nh||
  (i1 (lW t.h t.cell (t.cols+1).toNat t.nh) t.nh||(i1 (fun i=>uH t.nk (t.g i)) t.ng||i1 (fun i=>EP (t.kg i) (t.kd i)) t.nk)))))
def oC(t:Trk):Int:=bif lG t.cols t.rows t.nh t.ng t.nk then (bif mO t then 40 else 0) else 42
theorem FC{k:Nat}(h1:1<=k)(h2:k<9223372036854775808):IntKind.i64.wrap ((k:Int) - 1)=((k - 1:Nat):Int):=by rw [IntKind.wrap_i64];omega
def RR(X Y:Nat->Int)(i:Nat):Bool:=X (i+1)==X i&&Y (i+1)==Y i
def J0(X Y:Nat->Int)(n:Nat):Bool:=i1 (RR X Y) (n - 1)
theorem O0(k:Nat)(x y:Int)(X Y:Nat->Int):bJ k [.int .i64 x,.int .i64 y] (bD X Y)=bD (fun j=>if j=k then x else X j) (fun j=>if j=k then y else Y j):=by
 funext j
 unfold bJ bD
 by_cases h:j=k
 ·rw [decide_eq_true h];simp only [if_pos h,cond_true]
 ·rw [decide_eq_false h];simp only [if_neg h,cond_false]
def nO(n:Nat)(X Y:Nat->Int):Int:=
 bif decide ((n:Int)<3) then 42 else bif decide ((n:Int)>64) then 42 else bif i1 (fun i=>sI (X i) (Y i)) n then 40 else 0
def SA(t:Trk):Bool:=decide (60<=t.rate)&&decide (t.rate<=1024)
def G8(t:Trk):Bool:=i1 (fun i=>uC (t.lx i) (t.ly i)) t.nl
def iI(t:Trk):Int:=bif !SA t then 40 else bif oC t !=0 then oC t else bif nO t.nl t.lx t.ly !=0 then nO t.nl t.lx t.ly else bif G8 t then 40 else 0
def AN(t:Trk)(i:Nat):Int:=
 bif !(decide ((2:Int)<=t.rn i)&&decide ((t.rn i:Int)<=64)) then 42 else bif i1 (fun k=>uC (t.rx i k) (t.ry i k)) (t.rn i) then 40 else bif J0 (t.rx i) (t.ry i) (t.rn i) then 43 else 0
def KQ(t:Trk)(i:Nat):Int:=
 bif uC (t.ax i) (t.ay i)||uC (t.bx i) (t.sb i) then 40 else bif t.ax i==t.bx i&&t.ay i==t.sb i then 43 else 0
def t6(c:Nat->Int):Nat->Nat->Int×Int
 |0,_=>(0,0)
 |f+1,i=>bif c i !=0 then (c i,(i:Int)) else t6 c f (i+1)
def oQ(t:Trk):Int×Int:=bif decide ((t.nr:Int)>16) then (42,0) else t6 (AN t) t.nr 0
def nY(t:Trk):Int×Int:=bif !(decide ((1:Int)<=t.nt)&&decide ((t.nt:Int)<=16)) then (42,0) else t6 (KQ t) t.nt 0
theorem KF{c:Nat->Int}{n i:Nat}(hi:i<n):t6 c (n - i) i=bif c i !=0 then (c i,(i:Int)) else t6 c (n - (i+1)) (i+1):=by
 rw [show n - i=(n - (i+1))+1 by omega];rfl
theorem aCA{c:Nat->Int}{n i:Nat}{v:Int}(hi:i<n)(h:c i=v)(hv:(v !=0)=true):t6 c (n - i) i=(v,(i:Int)):=by
 rw [KF hi,h,hv];rfl
theorem L5{c:Nat->Int}{n i:Nat}(hi:i<n)(h:c i=0):t6 c (n - i) i=t6 c (n - (i+1)) (i+1):=by
 rw [KF hi,h];rfl
def mV(t:Trk)(i k:Nat):List Bar:=(List.range k).map (aAC t i)
def nU(t:Trk):Nat->List Bar
 |0=>[]
 |i+1=>nU t i++mV t i (t.rn i - 1)
theorem DC(t:Trk)(i k:Nat):mV t i (k+1)=mV t i k++[aAC t i k]:=by
 unfold mV;rw [List.range_succ,List.map_append];rfl
theorem FY(t:Trk)(i k:Nat):(mV t i k).length=k:=by unfold mV;simp
theorem rW{t:Trk}{m:Nat}(h: ∀i,i<t.nr->t.rn i<=m): ∀n,n<=t.nr->(nU t n).length<=n*m
 |0,_=>Nat.zero_le _
 |n+1,hn=>by
  show (nU t n++mV t n (t.rn n - 1)).length<=_
  rw [List.length_append,FY,Nat.add_mul,Nat.one_mul]
  have h1:=rW h n (by omega)
  have h2:=h n (by omega)
  omega
def wO(t:Trk):List Bar:=nU t t.nr
def g9(t:Trk):Prop:=t.nr<=20/\ ∀i,i<t.nr->t.rn i<=100
theorem vN{r:Nat}(h:r<9223372036854775808):(if 0>IntKind.i64.wrap ((r:Int) - 1) then 0 else IntKind.i64.wrap ((r:Int) - 1))=((r - 1:Nat):Int):=by
 rw [IntKind.wrap_i64];split<;>omega
theorem I3(t:Trk)(i k:Nat):[SV.int .i64 (t.rx i k),.int .i64 (t.ry i k),.int .i64 (t.rx i (k+1)),.int .i64 (t.ry i (k+1)),.int .i64 i]=bsv (aAC t i k):=rfl
def xH :Bar:=(0,0,0,0,0)
def HN(L:List Bar):Nat->List SV:=aY bsv xH L
def vV(t:Trk)(b:Bar):Bool:=decide (0<O8 b.1 b.2.1 b.2.2.1 b.2.2.2.1 t.sx t.sy)&&decide (O8 b.1 b.2.1 b.2.2.1 b.2.2.2.1 t.sx t.sy<=17179869184)
def qW(t:Trk):Bool:=i1 (fun i=>vV t ((wO t).getD i xH)) (wO t).length
def aBF(t:Trk):Bool:=
 decide (t.sx<t.cx)||(decide (t.sy<t.cy)||(decide (t.sx>IntKind.i64.wrap (t.cx+IntKind.i64.wrap (t.cols*t.cell)))||decide (t.sy>IntKind.i64.wrap (t.cy+IntKind.i64.wrap (t.rows*t.cell)))))
def MJ(t:Trk):Bool:=decide (1<=t.laps)&&decide (t.laps<=100)
def oP(t:Trk):Int×Int:=bif aBF t then (40,0) else bif qW t then (43,0) else bif !MJ t then (40,0) else (0,0)
def orV(a b:Int×Int):Int×Int:=bif a.1 !=0 then a else b
def cG(t:Trk):Int×Int:=orV (iI t,0) (orV (oQ t) (orV (nY t) (oP t)))
end Go.Se
namespace Go.Se
theorem B5{a b:Int×Int}(h:(orV a b).1=0):a.1=0/\b.1=0:=by
 unfold orV at h
 cases hc:a.1 !=0
 ·rw [hc] at h
  refine ⟨?_,h⟩
  by_cases hx:a.1=0
  ·exact hx
  ·rw [bne_iff_ne.2 hx] at hc;cases hc
 ·rw [hc] at h
  rw [bne_iff_ne] at hc
  exact absurd h hc
end Go.Se
namespace Go.Se
def eR(x:Int):List SV:=[.int .i64 x]
def plL(x:Int×Int):List SV:=[.int .i64 x.1,.int .i64 x.2]
def kiL(x:Int×Int×Bool):List SV:=[.int .i64 x.1,.int .i64 x.2.1,.bool x.2.2]
def gaL(x:Int×Int×Int×Int×Bool):List SV:=[.int .i64 x.1,.int .i64 x.2.1,.int .i64 x.2.2.1,.int .i64 x.2.2.2.1,.bool x.2.2.2.2]
def raL(x:List (Int×Int)):List SV:=[.ro x.length 2 (aY plL (0,0) x)]
def mD{α:Type}(st:Nat)(f:α->List SV)(d:α)(L:List α):SV:= .ro L.length st (aY f d L)
structure TL where
 rate:Int
 cell:Int
 cols:Int
 rows:Int
 corner:Int×Int
 heights:List Int
 ground:List Int
 kinds:List (Int×Int×Bool)
 line:List (Int×Int)
 rails:List (List (Int×Int))
 gates:List (Int×Int×Int×Int×Bool)
 start:Int×Int
 head:Int
 laps:Int
def TL.trk(t:TL):Trk:=mG t.rate t.cell t.cols t.rows t.corner.1 t.corner.2 t.heights.length (aY eR 0 t.heights) t.ground.length (aY eR 0 t.ground) t.kinds.length (aY kiL (0,0,false) t.kinds)
 t.line.length (aY plL (0,0) t.line) t.rails.length (aY raL [] t.rails) t.gates.length (aY gaL (0,0,0,0,false) t.gates) t.start.1 t.start.2 t.head t.laps
def TL.zero :TL:=⟨0,0,0,0,(0,0),[],[],[],[],[],[],(0,0),0,0⟩
def nHs(a b:Int):Int:=IntKind.i64.wrap (IntKind.i64.wrap (a+1)*IntKind.i64.wrap (b+1))
def nGs(a b:Int):Int:=IntKind.i64.wrap (a*b)
theorem TL.shape(t:TL):lY (aY eR 0 t.heights) (aY eR 0 t.ground) (aY kiL (0,0,false) t.kinds) (aY plL (0,0) t.line) (aY raL [] t.rails) (aY gaL (0,0,0,0,false) t.gates):=
 ⟨fun _=>rfl,fun _=>rfl,fun _=>rfl,fun _=>rfl,fun _=>rfl,fun _=>rfl⟩
def rD(t u:Trk):Prop:=
 (t.rate=u.rate/\t.cell=u.cell/\t.cols=u.cols/\t.rows=u.rows/\t.cx=u.cx/\t.cy=u.cy/\t.nh=u.nh/\t.ng=u.ng/\t.nk=u.nk)/\
 (∀i,i<t.nh->t.h i=u.h i)/\(∀i,i<t.ng->t.g i=u.g i)/\(∀i,i<t.nk->t.kg i=u.kg i/\t.kd i=u.kd i/\t.ko i=u.ko i)/\
 (t.nl=u.nl/\ ∀i,i<t.nl->t.lx i=u.lx i/\t.ly i=u.ly i)/\(t.nr=u.nr/\ ∀i,i<t.nr->t.rn i=u.rn i/\ ∀k,k<t.rn i->t.rx i k=u.rx i k/\t.ry i k=u.ry i k)/\
 (t.nt=u.nt/\ ∀i,i<t.nt->t.ax i=u.ax i/\t.ay i=u.ay i/\t.bx i=u.bx i/\t.sb i=u.sb i/\t.sp i=u.sp i)/\(t.sx=u.sx/\t.sy=u.sy/\t.head=u.head/\t.laps=u.laps)
theorem uW(t:Trk):rD t t:=
 ⟨⟨rfl,rfl,rfl,rfl,rfl,rfl,rfl,rfl,rfl⟩,fun _ _=>rfl,fun _ _=>rfl,fun _ _=>⟨rfl,rfl,rfl⟩,⟨rfl,fun _ _=>⟨rfl,rfl⟩⟩,⟨rfl,fun _ _=>⟨rfl,fun _ _=>⟨rfl,rfl⟩⟩⟩,⟨rfl,fun _ _=>⟨rfl,rfl,rfl,rfl,rfl⟩⟩,rfl,rfl,rfl,rfl⟩
theorem wC{i n m:Nat}(hi:i<n)(hm:n=m){c:Bool}(hc:c=false){A N X:Prop}(h:N):
  Br (decide ((i:Int)<(n:Int))) (Br (decide (0<=(i:Int))&&decide ((i:Int)<(n:Int))) (Br (decide (0<=(i:Int))&&decide ((i:Int)<(m:Int))) (Br c A N) False) False) X:=by
 subst hm;subst hc
 exact Br.of (fun _=>Br.of (fun _=>Br.of (fun _=>h) fun c=>oO hi c) fun c=>oO hi c) fun c=>nZ hi c
theorem IM{a b:Int}(h:a=b):(a !=b)=false:=by rw [h];exact bne_self_eq_false b
theorem V6{a b:Nat}(h:a=b):((a:Int) !=(b:Int))=false:=IM (by rw [h])
abbrev bE(x:Int):Prop:= -9223372036854775808<=x/\x<=9223372036854775807
structure aFZ (t:TL):Prop where
 rate:60<=t.rate/\t.rate<=1024
 cell:bE t.cell
 cols:1<=t.cols/\t.cols<=64
 rows:1<=t.rows/\t.rows<=64
 corner:bE t.corner.1/\bE t.corner.2
 nh:(nHs t.cols t.rows).toNat=t.heights.length
 heights: ∀x∈t.heights,bE x
 ng:(nGs t.cols t.rows).toNat=t.ground.length
 ground: ∀x∈t.ground,0<=x/\x<=7
 kinds:1<=(t.kinds.length:Int)/\(t.kinds.length:Int)<=8/\ ∀c∈t.kinds,bE c.1/\bE c.2.1
 line:3<=(t.line.length:Int)/\(t.line.length:Int)<=64/\ ∀c∈t.line,bE c.1/\bE c.2
 rails:0<=(t.rails.length:Int)/\(t.rails.length:Int)<=16/\ ∀l∈t.rails,2<=(l.length:Int)/\(l.length:Int)<=64/\ ∀c∈l,bE c.1/\bE c.2
 gates:1<=(t.gates.length:Int)/\(t.gates.length:Int)<=16/\ ∀c∈t.gates,bE c.1/\bE c.2.1/\bE c.2.2.1/\bE c.2.2.2.1
 start:bE t.start.1/\bE t.start.2
 head:0<=t.head/\t.head<=4294967295
 laps:1<=t.laps/\t.laps<=100
def lst{α:Type}(f:Nat->α)(n:Nat):List α:=(List.range n).map f
theorem fB{α:Type}(f:Nat->α)(n:Nat):(lst f n).length=n:=by simp [lst]
theorem kB{α:Type}{f:Nat->α}{n:Nat}{x:α}(h:x∈lst f n): ∃i,i<n/\x=f i:=by
 unfold lst at h
 obtain ⟨i,h1,h2⟩:=List.mem_map.1 h
 exact ⟨i,List.mem_range.1 h1,h2.symm⟩
theorem mU{α:Type}(l:List α)(d:α):lst (fun i=>l.getD i d) l.length=l:=by
 unfold lst
 apply List.ext_getElem?
 intro i
 rw [List.getElem?_map]
 by_cases h:i<l.length
 ·rw [List.getElem?_range h,Option.map_some,List.getD_eq_getElem?_getD,List.getElem?_eq_getElem h];rfl
 ·rw [List.getElem?_eq_none (by simpa using h),List.getElem?_eq_none (by omega)];rfl
def PB(t:Trk):TL:=⟨t.rate,t.cell,t.cols,t.rows,(t.cx,t.cy),lst t.h t.nh,lst t.g t.ng,lst (fun i=>(t.kg i,t.kd i,t.ko i)) t.nk,lst (fun i=>(t.lx i,t.ly i)) t.nl,
 lst (fun i=>lst (fun k=>(t.rx i k,t.ry i k)) (t.rn i)) t.nr,lst (fun i=>(t.ax i,t.ay i,t.bx i,t.sb i,t.sp i)) t.nt,(t.sx,t.sy),t.head,t.laps⟩
theorem IZ(t:TL):PB t.trk=t:=by
 obtain ⟨a,b,c,d,e,h,g,k,l,r,q,s,u,v⟩:=t
 have e1:lst (TL.trk ⟨a,b,c,d,e,h,g,k,l,r,q,s,u,v⟩).h h.length=h:=mU h 0
 have e2:lst (TL.trk ⟨a,b,c,d,e,h,g,k,l,r,q,s,u,v⟩).g g.length=g:=mU g 0
 have e3:lst (fun i=>((k.getD i (0,0,false)).1,(k.getD i (0,0,false)).2.1,(k.getD i (0,0,false)).2.2)) k.length=k:=mU k (0,0,false)
 have e4:lst (fun i=>((l.getD i (0,0)).1,(l.getD i (0,0)).2)) l.length=l:=mU l (0,0)
 have e5:lst (fun i=>lst (fun k=>(((r.getD i []).getD k (0,0)).1,((r.getD i []).getD k (0,0)).2)) (r.getD i []).length) r.length=r:=by
  have:(fun i=>lst (fun k=>(((r.getD i []).getD k (0,0)).1,((r.getD i []).getD k (0,0)).2)) (r.getD i []).length)=fun i=>r.getD i []:=funext fun i=>mU (r.getD i []) (0,0)
  rw [this];exact mU r []
 have e6:lst (fun i=>((q.getD i (0,0,0,0,false)).1,(q.getD i (0,0,0,0,false)).2.1,(q.getD i (0,0,0,0,false)).2.2.1,(q.getD i (0,0,0,0,false)).2.2.2.1,(q.getD i (0,0,0,0,false)).2.2.2.2)) q.length=q:=mU q (0,0,0,0,false)
 show TL.mk a b c d (e.1,e.2) _ _ _ _ _ _ (s.1,s.2) u v=TL.mk a b c d e h g k l r q s u v
 congr 1
theorem F1{c:Nat->Int}: ∀{f i:Nat},(t6 c f i).1=0-> ∀j,i<=j->j<i+f->c j=0
 |0,i,_,j,h1,h2=>by omega
 |f+1,i,h,j,h1,h2=>by
  unfold t6 at h
  cases e:c i !=0 with
  |true=>
   rw [e] at h
   simp only [cond_true] at h
   rw [h] at e;exact absurd e (by decide)
  |false=>
   rw [e] at h
   rcases Nat.eq_or_lt_of_le h1 with rfl|h3
   ·exact bne_eq_false_iff_eq.1 e
   ·exact F1 h j h3 (by omega)
structure yD (t:Trk):Prop where
 cell:bE t.cell
 corner:bE t.cx/\bE t.cy
 h: ∀i,i<t.nh->bE (t.h i)
 k: ∀i,i<t.nk->bE (t.kg i)/\bE (t.kd i)
 l: ∀i,i<t.nl->bE (t.lx i)/\bE (t.ly i)
 r: ∀i,i<t.nr-> ∀k,k<t.rn i->bE (t.rx i k)/\bE (t.ry i k)
 g: ∀i,i<t.nt->bE (t.ax i)/\bE (t.ay i)/\bE (t.bx i)/\bE (t.sb i)
 s:bE t.sx/\bE t.sy
 head:0<=t.head/\t.head<=4294967295
theorem ZJ{t:Trk}(h:okL (aU t)):yD t:=by
 obtain ⟨_,h1,_,_,h2,h3,⟨_,h4⟩,_,⟨_,h5⟩,⟨_,h6⟩,⟨_,h7⟩,⟨_,h8⟩,h9,h10,h11,_⟩:=h
 exact {
  cell:=h1
  corner:=⟨h2,h3⟩
  h:=fun i hi=>(h4 i hi).1
  k:=fun i hi=>⟨(h5 i hi).1,(h5 i hi).2.1⟩
  l:=fun i hi=>⟨(h6 i hi).1,(h6 i hi).2.1⟩
  r:=fun i hi k hk=>⟨((h7 i hi).1.2 k hk).1,((h7 i hi).1.2 k hk).2.1⟩
  g:=fun i hi=>⟨(h8 i hi).1,(h8 i hi).2.1,(h8 i hi).2.2.1,(h8 i hi).2.2.2.1⟩
  s:=⟨h9,h10⟩
  head:=h11}
theorem IK{t:Trk}(h:(cG t).1=0)(hi:yD t):aFZ (PB t):=by
 obtain ⟨g0,h⟩:=B5 h
 obtain ⟨r0,h⟩:=B5 h
 obtain ⟨t0,s0⟩:=B5 h
 simp only at g0
 unfold iI at g0
 cases c1:SA t with
 |false=>rw [c1] at g0;exact absurd g0 (show¬(40:Int)=0 by decide)
 |true=>
 rw [c1] at g0
 simp only [Bool.not_true,cond_false] at g0
 cases c2:oC t !=0 with
 |true=>
  rw [c2] at g0
  simp only [cond_true] at g0
  rw [g0] at c2;exact absurd c2 (by decide)
 |false=>
 rw [c2] at g0
 simp only [cond_false] at g0
 cases c3:nO t.nl t.lx t.ly !=0 with
 |true=>
  rw [c3] at g0
  simp only [cond_true] at g0
  rw [g0] at c3;exact absurd c3 (by decide)
 |false=>
 have f0:=bne_eq_false_iff_eq.1 c2
 have l0:=bne_eq_false_iff_eq.1 c3
 unfold oC at f0
 cases c4:lG t.cols t.rows t.nh t.ng t.nk with
 |false=>rw [c4] at f0;exact absurd f0 (show¬(42:Int)=0 by decide)
 |true=>
 rw [c4] at f0
 simp only [cond_true] at f0
 cases c5:mO t with
 |true=>rw [c5] at f0;exact absurd f0 (show¬(40:Int)=0 by decide)
 |false=>
 obtain ⟨⟨k1,k2,k3⟩,n1,n2,n3,n4,n5⟩:=uG c4
 unfold mO at c5
 simp only [Bool.or_eq_false_iff] at c5
 obtain ⟨_,_,_,_,_,c6,_⟩:=c5
 have hg:=qM.1 c6
 unfold SA at c1
 simp only [Bool.and_eq_true,decide_eq_true_eq] at c1
 unfold nO at l0
 have hl:3<=t.nl/\t.nl<=64:=by
  cases d1:decide ((t.nl:Int)<3) with
  |true=>rw [d1] at l0;exact absurd l0 (show¬(42:Int)=0 by decide)
  |false=>
   rw [d1] at l0
   cases d2:decide ((t.nl:Int)>64) with
   |true=>rw [d2] at l0;exact absurd l0 (show¬(42:Int)=0 by decide)
   |false=>have:=of_decide_eq_false d1;have:=of_decide_eq_false d2;omega
 unfold oQ at r0
 have hr:t.nr<=16/\ ∀i,i<t.nr->AN t i=0:=by
  cases d1:decide ((t.nr:Int)>16) with
  |true=>rw [d1] at r0;exact absurd r0 (show¬(42:Int)=0 by decide)
  |false=>
   rw [d1] at r0
   have:=of_decide_eq_false d1
   exact ⟨by omega,fun i hi=>F1 r0 i (Nat.zero_le _) (by omega)⟩
 have hrn: ∀i,i<t.nr->2<=t.rn i/\t.rn i<=64:=fun i hi=>by
  have e:=hr.2 i hi
  unfold AN at e
  cases d1:(decide ((2:Int)<=t.rn i)&&decide ((t.rn i:Int)<=64)) with
  |false=>rw [d1] at e;exact absurd e (show¬(42:Int)=0 by decide)
  |true=>
   simp only [Bool.and_eq_true,decide_eq_true_eq] at d1
   omega
 unfold nY at t0
 have ht:1<=t.nt/\t.nt<=16:=by
  cases d1:(decide ((1:Int)<=t.nt)&&decide ((t.nt:Int)<=16)) with
  |false=>rw [d1] at t0;exact absurd t0 (show¬(42:Int)=0 by decide)
  |true=>
   simp only [Bool.and_eq_true,decide_eq_true_eq] at d1
   omega
 have hlp:1<=t.laps/\t.laps<=100:=by
  unfold oP at s0
  cases d1:aBF t with
  |true=>rw [d1] at s0;exact absurd s0 (show¬(40:Int)=0 by decide)
  |false=>
   rw [d1] at s0
   cases d2:qW t with
   |true=>rw [d2] at s0;exact absurd s0 (show¬(43:Int)=0 by decide)
   |false=>
    rw [d2] at s0
    cases d3:MJ t with
    |false=>rw [d3] at s0;exact absurd s0 (show¬(40:Int)=0 by decide)
    |true=>
     unfold MJ at d3
     simp only [Bool.and_eq_true,decide_eq_true_eq] at d3
     exact d3
 have w: ∀x:Int,-10000<=x->x<=10000->IntKind.i64.wrap x=x:=fun x _ _=>by rw [IntKind.wrap_i64];omega
 have m1:=A9 (a:=t.cols+1) (b:=t.rows+1) (N:=65) (M:=65) (by omega) (by omega) (by omega) (by omega)
 have m2:=A9 (a:=t.cols) (b:=t.rows) (N:=64) (M:=64) (by omega) (by omega) (by omega) (by omega)
 exact {
  rate:=c1
  cell:=hi.cell
  cols:=k1
  rows:=k2
  corner:=hi.corner
  nh:=by
   show (nHs t.cols t.rows).toNat=(lst t.h t.nh).length
   unfold nHs
   rw [w (t.cols+1) (by omega) (by omega),w (t.rows+1) (by omega) (by omega),w _ (by omega) (by omega),fB];omega
  heights:=fun x hx=>by
   obtain ⟨i,h1,rfl⟩:=kB hx
   exact hi.h i h1
  ng:=by
   show (nGs t.cols t.rows).toNat=(lst t.g t.ng).length
   unfold nGs
   rw [w _ (by omega) (by omega),fB];omega
  ground:=fun x hx=>by
   obtain ⟨i,h1,rfl⟩:=kB hx
   have:=hg i h1
   unfold uH at this
   simp only [Bool.or_eq_false_iff,decide_eq_false_iff_not] at this
   omega
  kinds:=⟨by show 1<=((lst _ t.nk).length:Int);rw [fB];omega,by show ((lst _ t.nk).length:Int)<=8;rw [fB];omega,fun x hx=>by
   obtain ⟨i,h1,rfl⟩:=kB hx
   exact hi.k i h1⟩
  line:=⟨by show 3<=((lst _ t.nl).length:Int);rw [fB];omega,by show ((lst _ t.nl).length:Int)<=64;rw [fB];omega,fun x hx=>by
   obtain ⟨i,h1,rfl⟩:=kB hx
   exact hi.l i h1⟩
  rails:=⟨by show 0<=((lst _ t.nr).length:Int);rw [fB];omega,by show ((lst _ t.nr).length:Int)<=16;rw [fB];omega,fun x hx=>by
   obtain ⟨i,h1,rfl⟩:=kB hx
   have:=hrn i h1
   exact ⟨by rw [fB];omega,by rw [fB];omega,fun c hc=>by
    obtain ⟨k,h2,rfl⟩:=kB hc
    exact hi.r i h1 k h2⟩⟩
  gates:=⟨by show 1<=((lst _ t.nt).length:Int);rw [fB];omega,by show ((lst _ t.nt).length:Int)<=16;rw [fB];omega,fun x hx=>by
   obtain ⟨i,h1,rfl⟩:=kB hx
   exact hi.g i h1⟩
  start:=hi.s
  head:=hi.head
  laps:=hlp}
theorem KE{P:Program}{k:FuncId}{xs xs':List SV}{σ:List (Option SB)}{v:SV}{σ':List (Option SB)}{d:List Nat}(h: ∀ρ T w l,aP ρ T w xs l->aP ρ T w xs' l)(hc:aD P k xs' σ v σ' d):aD P k xs σ v σ' d:=
 fun ρ T w vals h1 h2 h3 h4=>hc ρ T w vals (h _ _ _ _ h1) h2 h3 h4
theorem FG{ρ:aG}{T:Nat->Prop}{w:World}{n m st:Nat}{g g':Nat->List SV}(hn:n=m)(h: ∀i,i<n-> ∀b o,dW T w (g i) b o->dW T w (g' i) b o){v:Value}(hv:rel ρ T w (.ro n st g) v):rel ρ T w (.ro m st g') v:=by
 subst hn
 obtain ⟨a,c,h1,h2,h3⟩:=hv
 refine ⟨a,c,h1,h2,fun hl=> ?_⟩
 obtain ⟨b,off,h4,hb,h5,h6⟩:=h3 hl
 exact ⟨b,off,h4,hb,h5,fun i hi=>h i hi _ _ (h6 i hi)⟩
theorem y9{ρ:aG}{T:Nat->Prop}{w:World}{n m st:Nat}{g g':Nat->List SV}(hn:n=m)(h: ∀i,i<n->g i=g' i){v:Value}(hv:rel ρ T w (.ro n st g) v):rel ρ T w (.ro m st g') v:=
 FG hn (fun i hi _ _ hr=>by rw [<- h i hi];exact hr) hv
variable {P:Program}
theorem sO {k:FuncId} {xs:List SV} {sb:SB} {T0:TypeId} {cs:List SV} {n st e:Nat} {g g':Nat->List SV} {d:List Nat} (hcs:ids.idsL cs=[]) (hg: ∀i,i<n->g i=g' i/\(g' i).length=st)
  (h:aD P k xs [some sb] (.own 1 0 st n) [some (.cells T0 cs),some (.row e st n g)] d):aD P k xs [some sb] (.ro n st g') [some (.cells T0 cs)] d:=by
 intro ρ T w vals h1 h2 h3 h4
 refine (h ρ T w vals h1 h2 h3 h4).mono fun y w' ⟨ρ',T',hd⟩=> ?_
 obtain ⟨b,c,r1,rfl,r2,r3,_⟩:=hd.val
 obtain ⟨b',r4,r5,vs,r6,r7,r8⟩:=hd.store 1 _ rfl
 rw [r1] at r4;cases r4
 obtain ⟨_,b0,_,z1,z2,z3⟩:=h2 0 (by simp)
 have hb0:=(h4.low 0 b0 z1).2
 have z4:=hd.names 0 b0 z1
 have hnew:w.heap.size<=b:=by
  rcases hd.fresh 1 b (by simp) r1 with h|⟨q,_,hq,_⟩
  ·exact h
  ·match q,hq with
   |0,hq=>cases hq
   |1,hq=>cases hq
 have hdead: ∀q:Nat,¬([some (SB.cells T0 cs),some (.row e st n g)]:List (Option SB))[q]? =some none:=fun q hq=>by
  match q,hq with
  |0,hq=>cases hq
  |1,hq=>cases hq
 refine ⟨fun p=>if p=0 then ρ' 0 else none,fun c=>T' c/\c≠b,{
  names:=fun p c hp=>by
   have:=(h4.low p c hp).1
   have hp0:p=0:=by simp at this;exact this
   subst hp0
   rw [if_pos rfl];exact hd.names 0 c hp
  only:=fun p c hp=>by
   by_cases hp0:p=0
   ·subst hp0;simp
   ·rw [if_neg hp0] at hp;cases hp
  len:=by simp
  val:= ?_
  store:=fun p s hp=>by
   match p,hp with
   |0,hp=>
    cases hp
    obtain ⟨b1,e1,e2,e3⟩:=hd.store 0 _ rfl
    rw [z4] at e1;cases e1
    refine ⟨b0,by rw [if_pos rfl];exact z4,⟨e2,by omega⟩, ?_⟩
    obtain ⟨vs0,f1,f2⟩:=e3
    exact ⟨vs0,f1,aR (ρ:=fun _=>none) (ρ':=fun p=>if p=0 then ρ' 0 else none) (T:=T') (fun _ _ h=>by cases h) (fun _ _ h=>h.1) (aX.refl T' w') _ _ (fJ _ _ hcs f2)⟩
  fresh:=fun p c hp hb=>by
   rw [if_neg (by simp at hp;omega)] at hb;cases hb
  inj:=fun p q c hp _ hb=>by
   rw [if_neg (by simp at hp;omega)] at hb;cases hb
  dirty:=hd.dirty
  grow:=hd.grow
  tback:=fun c hc ht=>hd.tback c hc ht.1
  below:=fun p c hp=>by
   by_cases hp0:p=0
   ·subst hp0;rw [if_pos rfl] at hp;exact hd.below 0 c hp
   ·rw [if_neg hp0] at hp;cases hp
  tkeep:=fun c hc ht=>by
   rcases hd.tkeep c hc ht with h|⟨q,_,hq,_⟩
   ·exact .inl ⟨h,by omega⟩
   ·exact absurd hq (hdead q)}⟩
 refine ⟨some ⟨b,0*st,none⟩,c,rfl,⟨r2,by omega,fun he=>by cases he⟩,fun _=>⟨b,0,by rw [Nat.zero_mul],(Array.getElem?_eq_some_iff.1 r6).1,fun ht=>ht.2 rfl,fun i hi=> ?_⟩⟩
 obtain ⟨e1,e2⟩:=hg i hi
 rw [<- e1]
 have hr:=aR (T':=fun c=>T' c/\c≠b) (fun _ _ h=>h) (fun _ _ h=>h.1) (aX.refl T' w') _ _ (r8 i hi)
 rw [Nat.zero_add]
 refine dH hr fun j u hj=> ?_
 rw [dO r6]
 rw [List.getElem?_take] at hj
 split at hj
 ·rw [List.getElem?_drop] at hj
  simpa using hj
 ·cases hj
def nE{α:Type}(e st:Nat)(f:α->List SV)(L:List α)(b:SB)(K:KC):Prop:=
 (L=[]->K .nils [some b] [0])/\ ∀g,L≠[]->(∀j (h:j<L.length),g j=f L[j])->K (.own 1 0 st L.length) [some b,some (.row e st L.length g)] [0]
theorem jY {α:Type} {k:FuncId} {xs:List SV} {sb:SB} {T0:TypeId} {cs:List SV} {e st:Nat} {f:α->List SV} {d0:α} {L:List α} (hcs:ids.idsL cs=[]) (hf: ∀x,(f x).length=st)
  (h:Sat P k xs [some sb] (nE e st f L (.cells T0 cs))):aD P k xs [some sb] (.ro L.length st (aY f d0 L)) [some (.cells T0 cs)] [0]:=by
 obtain ⟨v,σ',d,hv,hc⟩:=h (fun v σ' d=>(L=[]/\v= .nils/\σ'=[some (.cells T0 cs)]/\d=[0])\/ ∃g,(∀j (h:j<L.length),g j=f L[j])/\v= .own 1 0 st L.length/\σ'=[some (.cells T0 cs),some (.row e st L.length g)]/\d=[0])
  ⟨fun hL=> .inl ⟨hL,rfl,rfl,rfl⟩,fun g _ hg=> .inr ⟨g,hg,rfl,rfl,rfl⟩⟩
 rcases hv with ⟨rfl,rfl,rfl,rfl⟩|⟨g,hg,rfl,rfl,rfl⟩
 ·exact lR hc
 ·exact sO hcs (fun i hi=>⟨by rw [hg i hi,dM hi],by rw [dM hi];exact hf _⟩) hc
end Go.Se
namespace Go.Se
def cO(w:List Int):Prop:= ∀x,x∈w->vC x=false/\x≠10/\x≠35
theorem KD(n:Int): ∀x,x∈aJ n->x=45\/(48<=x/\x<=57):=fun x hx=>by
 unfold aJ kN at hx
 rcases List.mem_append.1 hx with hx|hx
 ·cases h:decide (n<0) with
  |true=>rw [h] at hx;exact .inl (List.mem_singleton.1 hx)
  |false=>rw [h] at hx;cases hx
 ·exact .inr (eA (lK n) x hx)
theorem ZR{x:Int}(h:x≠32)(h2:x≠9):vC x=false:=by
 unfold vC
 rw [beq_false_of_ne h,beq_false_of_ne h2];rfl
theorem JF(n:Int):cO (aJ n):=fun x hx=>by
 have h:=KD n x hx
 exact ⟨ZR (by omega) (by omega),by omega,by omega⟩
theorem WB(n:Int):aJ n≠[]:=fun e=>by
 have h:=congrArg List.length e
 unfold aJ at h
 rw [List.length_append] at h
 have:=qU (bH n)
 have h:(kN n).length+(bG (bH n) 1).length=0:=h
 omega
def iB :List (List Int)->List Int
 | []=>[]
 |w::r=>32::(w++iB r)
theorem KS : ∀(r:List (List Int)) (w:List Int),w≠[]->cO w->(∀x,x∈r->x≠[]/\cO x)->jW [] (w++iB r)=w::r
 | [],w,h1,h2,_=>by
  rw [tT w [] (iB []) (fun x hx=>(h2 x hx).1),List.nil_append]
  show jW w []=[w]
  rw [CS]
  cases w with
  |nil=>exact absurd rfl h1
  |cons=>rfl
 |v::r,w,h1,h2,h3=>by
  obtain ⟨v1,v2⟩:=h3 v (List.mem_cons_self ..)
  rw [tT w [] _ (fun x hx=>(h2 x hx).1),List.nil_append]
  show jW w (32::(v++iB r))=_
  rw [tX]
  show (bif w.isEmpty then jW [] (v++iB r) else w::jW [] (v++iB r))=_
  rw [KS r v v1 v2 fun x hx=>h3 x (List.mem_cons_of_mem _ hx)]
  cases w with
  |nil=>exact absurd rfl h1
  |cons=>rfl
theorem K4{c:Int}: ∀{l:List Int},(∀x,x∈l->x≠c)->fW c l=false
 | [],_=>rfl
 |a::l,h=>by
  unfold fW
  rw [beq_false_of_ne (h a (List.mem_cons_self ..)),K4 (l:=l) fun x hx=>h x (List.mem_cons_of_mem _ hx)];rfl
theorem I9 : ∀(r:List (List Int)) (x:Int),(∀v,v∈r->cO v)->x∈iB r->x≠10/\x≠35
 | [],x,_,h=>by cases h
 |v::r,x,h,hx=>by
  rcases List.mem_cons.1 hx with rfl|hx
  ·exact ⟨by decide,by decide⟩
  rcases List.mem_append.1 hx with hx|hx
  ·exact (h v (List.mem_cons_self ..) x hx).2
  ·exact I9 r x (fun v hv=>h v (List.mem_cons_of_mem _ hv)) hx
theorem L8 : ∀(u w r:List Int),(∀x,x∈u->x≠10)->lnR w (u++10::r)=(w++u)::lnR [] r
 | [],w,r,_=>by rw [List.append_nil];rfl
 |a::u,w,r,h=>by
  rw [List.cons_append]
  conv=>lhs;unfold lnR
  rw [beq_false_of_ne (h a (List.mem_cons_self ..)),cond_false,L8 u (w++[a]) r fun x hx=>h x (List.mem_cons_of_mem _ hx),List.append_assoc];rfl
theorem aB2{w rest:List Int}{r:List (List Int)}{k:Int}(h1:w≠[])(h2:cO w)(h3: ∀x,x∈r->x≠[]/\cO x):
  nbF k (lnR [] (w++iB r++10::rest))=(k+1,w::r)::nbF (k+1) (lnR [] rest):=by
 have hm: ∀x,x∈w++iB r->x≠10/\x≠35:=fun x hx=>by
  rcases List.mem_append.1 hx with hx|hx
  ·exact (h2 x hx).2
  ·exact I9 r x (fun v hv=>(h3 v hv).2) hx
 rw [L8 _ _ _ fun x hx=>(hm x hx).1,List.nil_append]
 conv=>lhs;unfold nbF
 have:bW (w++iB r)=w::r:=by
  unfold bW
  rw [pA 35 _ (K4 fun x hx=>(hm x hx).2),KS r w h1 h2 h3]
 rw [this];rfl
theorem AJ{n:Int}(h0: -999999999999999999<=n)(h1:n<=999999999999999999):iQ (aJ n)=0/\fF (aJ n)=n:=by
 have ha:=lK n
 have hb:bH n<1000000000000000000:=QZ (by omega) (by omega)
 have hWd:vQ (bG (bH n) 1):=eA ha
 have hW1:=qU (bH n)
 have hW2:=pW (k:=18) ha (show bH n<10^18 by omega) (by decide)
 have hw:aJ n=kN n++(bG (bH n) 1++[]):=by rw [List.append_nil];rfl
 obtain ⟨m1,m2⟩:=BS (n:=n) (m:=[]) hWd hW1
 have hnum:=x0 (most:=18) hWd hW1 (by omega) (by omega)
 have hval:=rU (least:=1) ha (show bH n<18446744073709551616 by omega)
 unfold iQ fF
 rw [hw,m1,m2,List.append_nil,hnum.1,hnum.2,hval]
 refine ⟨rfl, ?_⟩
 unfold bH
 cases h:decide (n<0)
 ·rfl
 ·show - -n=n
  omega
theorem UX{n lo hi:Int}(h0: -999999999999999999<=n)(h1:n<=999999999999999999)(hl:lo<=n)(hh:n<=hi):xY (aJ n) lo hi=0:=by
 obtain ⟨a,b⟩:=AJ h0 h1
 unfold xY
 rw [a,b,decide_eq_false (show¬n<lo by omega),decide_eq_false (show¬n>hi by omega)];rfl
theorem RG{b:Bk}{a:Int}:jN b 0 a=b:=by unfold jN;cases b.err==0<;>rfl
theorem oK(n:Int):bB (aJ n):=fun x hx=>by
 unfold aJ kN at hx
 rcases List.mem_append.1 hx with hx|hx
 ·cases h:decide (n<0) with
  |true=>rw [h] at hx;have:=List.mem_singleton.1 hx;omega
  |false=>rw [h] at hx;cases hx
 ·have:=eA (lK n) x hx;omega
theorem HK(n:Int):aA (bytesOf (aJ n))=aJ n:=cH (oK n)
theorem X0{b:Bk}{n lo hi:Int}(hb:b.err=0)(h0: -999999999999999999<=n)(h1:n<=999999999999999999)(hl:lo<=n)(hh:n<=hi):
  iC b (aA (bytesOf (aJ n))) lo hi=b/\jT b (aA (bytesOf (aJ n))) lo hi=n:=by
 have e:=UX h0 h1 hl hh
 unfold iC jT
 rw [HK,e,hb,(AJ h0 h1).2]
 exact ⟨RG,rfl⟩
end Go.Se
namespace Go.Se
theorem SR{n:Int}(h0: -9223372036854775808<=n)(h1:n<=9223372036854775807):sS (aC n)=0/\rG (aC n)=n:=by
 have ha:=lK n
 have hb:bH n<9223372036854775809:=QZ (by omega) (by omega)
 have hw0:0<=bH n/4294967296:=by omega
 have hWd:vQ (bG (bH n/4294967296) 1):=eA hw0
 have hW1:=qU (bH n/4294967296)
 have hW2:=pW (k:=10) hw0 (show bH n/4294967296<10^10 by omega) (by decide)
 obtain ⟨m1,m2⟩:=BS (n:=n) (m:=wV (bH n)) hWd hW1
 have hnum:=x0 (most:=10) hWd hW1 (by omega) (by omega)
 have hval:=rU (least:=1) hw0 (show bH n/4294967296<18446744073709551616 by omega)
 have key:oN (aC n)=true/\vK (aC n)=bX (bH n)/\nI (dG 46 (cV (aC n))) 10=bH n/4294967296:=by
  unfold oN vK
  rw [JG,m2]
  cases hf:bX (bH n)==0 with
  |true=>
   have hF:wV (bH n)=[]:=by unfold wV;rw [hf];rfl
   have hf0:bX (bH n)=0:=by simpa using hf
   rw [hF,List.append_nil,pA 46 _ (rM (by decide) _ hWd),rM (by decide) _ hWd,hnum.1,hnum.2,hval,hf0]
   exact ⟨rfl,rfl,rfl⟩
  |false=>
   have hF:wV (bH n)=46::kA (bG (bX (bH n)) 10):=by unfold wV;rw [hf];rfl
   have hne:bX (bH n)≠0:=by simpa using hf
   have hfr:=nW ha
   have hflt:=IU ha
   have hpos:0<bX (bH n):=by omega
   obtain ⟨c1,c2,c3⟩:=BY (c:=46) (by decide) _ (kA (bG (bX (bH n)) 10)) hWd
   have htd:vQ (kA (bG (bX (bH n)) 10)):=fun x hx=>eA hfr.1 x (FE hx)
   have hdd:vQ (bG (bX (bH n)) 10):=eA hfr.1
   have hlen:(bG (bX (bH n)) 10).length=10:=by
    rw [PS hpos (by omega)]
    exact VB (by have:=pW (k:=10) hfr.1 (show bX (bH n)<10^10 by omega) (by decide);omega)
   have htl:=qL (bG (bX (bH n)) 10)
   have ht1:1<=(kA (bG (bX (bH n)) 10)).length:=by
    have:=CN (r:=(bG (bX (bH n)) 10).reverse) (by
     obtain ⟨x,hx,hx'⟩:=F8 20 (bX (bH n)) 10 0 [] hpos (by omega)
     exact ⟨x,by simpa [bG] using hx,hx'⟩)
    unfold kA
    rw [List.length_reverse]
    exact List.length_pos_iff.2 this
   have hpad:EQ (kA (bG (bX (bH n)) 10))=bG (bX (bH n)) 10:=by
    have:=E7 (bG (bX (bH n)) 10)
    rw [hlen] at this
    exact this
   have n1:=x0 (most:=10) htd ht1 (by omega) (by omega)
   have n2:=x0 (most:=10) hdd (by omega) (by omega) (by omega)
   have hv2:=rU (least:=10) hfr.1 (show bX (bH n)<18446744073709551616 by omega)
   rw [hF,c1,c2,c3,hnum.1,hnum.2,hval]
   have hrb:AT (kA (bG (bX (bH n)) 10))=true:=by unfold AT;rw [n1.1,hpad,n2.1];rfl
   have hrn:uJ (kA (bG (bX (bH n)) 10))=bX (bH n):=by unfold uJ;rw [n1.1,hpad,n2.2,hv2];rfl
   rw [hrb,hrn]
   exact ⟨rfl,rfl,rfl⟩
 obtain ⟨k1,k2,k3⟩:=key
 have hA:rF (aC n)=bH n:=by
  unfold rF
  rw [k2,k3,VV ha]
  omega
 have hZ:C1 (aC n)=n:=by
  unfold C1
  rw [hA,JG,m1]
  unfold bH
  cases h:decide (n<0)
  ·rfl
  ·show - -n=n
   omega
 unfold sS rG
 rw [k1,hZ,(i0 n).2 (by omega)]
 exact ⟨rfl,rfl⟩
theorem BR(n:Int): ∀x,x∈aC n->x=45\/x=46\/(48<=x/\x<=57):=fun x hx=>by
 have ha:=lK n
 unfold aC kN at hx
 rcases List.mem_append.1 hx with hx|hx
 ·cases h:decide (n<0) with
  |true=>rw [h] at hx;exact .inl (List.mem_singleton.1 hx)
  |false=>rw [h] at hx;cases hx
 ·rcases List.mem_append.1 hx with hx|hx
  ·exact .inr (.inr (eA (by omega) x hx))
  ·cases hf:bX (bH n)==0 with
   |true=>rw [hf] at hx;cases hx
   |false=>
    rw [hf] at hx
    rcases List.mem_cons.1 hx with rfl|hx
    ·exact .inr (.inl rfl)
    ·exact .inr (.inr (eA (nW ha).1 x (FE hx)))
theorem N2(n:Int):cO (aC n):=fun x hx=>by
 have h:=BR n x hx
 exact ⟨ZR (by omega) (by omega),by omega,by omega⟩
theorem ZF(n:Int):aC n≠[]:=fun e=>by
 have h:=congrArg List.length e
 unfold aC at h
 rw [List.length_append,List.length_append] at h
 have:=qU (bH n/4294967296)
 have h:(kN n).length+((bG (bH n/4294967296) 1).length+_)=0:=h
 omega
theorem kK(n:Int):bB (aC n):=fun x hx=>by
 have:=BR n x hx
 exact ⟨by omega,by omega⟩
theorem tJ(n:Int):(aC n).length<=42:=by
 unfold aC
 rw [List.length_append,List.length_append]
 have h1:=iV (bH n/4294967296) 1
 have h2:(kN n).length<=1:=by unfold kN;cases decide (n<0)<;>simp
 have h3:(bif bX (bH n)==0 then ([]:List Int) else 46::kA (bG (bX (bH n)) 10)).length<=21:=by
  cases bX (bH n)==0 with
  |true=>exact Nat.zero_le _
  |false=>
   have:=qL (bG (bX (bH n)) 10)
   have h4:=iV (bX (bH n)) 10
   simp only [cond_false,List.length_cons]
   omega
 omega
theorem YN{b:Bk}{n:Int}(hb:b.err=0)(h0: -9223372036854775808<=n)(h1:n<=9223372036854775807):jZ b (aC n)=b/\tY b (aC n)=n:=by
 obtain ⟨a,c⟩:=SR h0 h1
 unfold jZ tY
 rw [a,c,hb]
 exact ⟨RG,rfl⟩
end Go.Se
namespace Go.Se
def tG(l:List Int):Nat->List SV:=fun i=>[.int .u8 (l.getD i 0)]
theorem RA(s:ByteArray):AV s=tG (aA s):=by
 funext i
 unfold AV tG
 rw [xO]
theorem aCX(l m:List Int):oH l.length (tG l) (tG m)=tG (l++m):=by
 funext i
 unfold oH tG
 by_cases h:i<l.length
 ·rw [show i.blt l.length=true by simpa [Nat.blt_eq] using h,cond_true,List.getD_eq_getElem?_getD,List.getD_eq_getElem?_getD,List.getElem?_append_left h]
 ·rw [show i.blt l.length=false by rw [<- Bool.not_eq_true];simpa [Nat.blt_eq] using h,cond_false,List.getD_eq_getElem?_getD,List.getD_eq_getElem?_getD,List.getElem?_append_right (Nat.not_lt.1 h)]
theorem YE(a b:ByteArray):aA (a++b)=aA a++aA b:=by
 unfold aA
 simp
theorem aBE(L:List Int):mC L.length (tG L)=L:=by
 unfold mC tG
 refine List.ext_getElem (by simp) fun i h1 h2=> ?_
 simp [AO,List.getD_eq_getElem?_getD,List.getElem?_eq_getElem h2]
end Go.Se
namespace Go.Se
def lnW(w:List Int)(r:List (List Int)):List Int:=w++iB r++[10]
def dF :List (List Int)->List Int
 | []=>[]
 |w::r=>w++iB r
def rO :List Int:=[114,97,116,101]
def s5 :List Int:=[99,101,108,108]
def nX :List Int:=[115,105,122,101]
def kC :List Int:=[99,111,114,110,101,114]
def gM :List Int:=[104,101,105,103,104,116,115]
def iS :List Int:=[103,114,111,117,110,100]
def iO :List Int:=[107,105,110,100]
def eZ :List Int:=[112,111,105,110,116]
def dU :List Int:=[114,97,105,108]
def gD :List Int:=[103,97,116,101]
def g8 :List Int:=[115,116,97,114,116]
def oZ :List Int:=[108,97,112,115]
def wOn :List Int:=[111,110]
def IA :List Int:=[111,102,102]
def qQ :List Int:=[112,108,97,105,110]
def qF :List Int:=[115,112,108,105,116]
def fV(f:Nat->Int)(a n:Nat):List (List Int):=(List.range' a n).map fun i=>aC (f i)
def fT(f:Nat->Int)(a n:Nat):List (List Int):=(List.range' a n).map fun i=>aJ (f i)
def dD(x y:Nat->Int):Nat->Nat->List (List Int)
 |_,0=>[]
 |a,n+1=>aC (x a)::aC (y a)::dD x y (a+1) n
def bL(f:Nat->List Int):Nat->Nat->List Int
 |_,0=>[]
 |a,n+1=>f a++bL f (a+1) n
theorem jQ(f:Nat->List Int): ∀(n a:Nat),bL f a (n+1)=bL f a n++f (a+n)
 |0,a=>by show f a++[]=[]++f (a+0);simp
 |n+1,a=>by
  show f a++bL f (a+1) (n+1)=(f a++bL f (a+1) n)++f (a+(n+1))
  rw [jQ f n (a+1),List.append_assoc,show a+1+n=a+(n+1) by omega]
theorem BU(f:Nat->Int)(a n:Nat):fV f a (n+1)=fV f a n++[aC (f (a+n))]:=by
 unfold fV
 rw [List.range'_concat]
 simp
theorem DQ(f:Nat->Int)(a n:Nat):fT f a (n+1)=fT f a n++[aJ (f (a+n))]:=by
 unfold fT
 rw [List.range'_concat]
 simp
theorem pR(x y:Nat->Int): ∀(n a:Nat),dD x y a (n+1)=dD x y a n++[aC (x (a+n)),aC (y (a+n))]
 |0,a=>by show aC (x a)::aC (y a)::[]=_;simp [dD]
 |n+1,a=>by
  show aC (x a)::aC (y a)::dD x y (a+1) (n+1)=(aC (x a)::aC (y a)::dD x y (a+1) n)++_
  rw [pR x y n (a+1),show a+1+n=a+(n+1) by omega];simp
def onW(b:Bool):List Int:=bif b then IA else wOn
def hC(b:Bool):List Int:=bif b then qF else qQ
def tK(t:Trk):List Int:=
 lnW rO [aJ t.rate]++lnW s5 [aC t.cell]++lnW nX [aJ t.cols,aJ t.rows]++lnW kC [aC t.cx,aC t.cy]++
 bL (fun r=>lnW gM (fV t.h (r*(t.cols+1).toNat) (t.cols+1).toNat)) 0 (t.rows+1).toNat++
 bL (fun r=>lnW iS (fT t.g (r*t.cols.toNat) t.cols.toNat)) 0 t.rows.toNat++
 bL (fun i=>lnW iO [aC (t.kg i),aC (t.kd i),onW (t.ko i)]) 0 t.nk
def aDk(t:Trk):List Int:=
 bL (fun i=>lnW eZ [aC (t.lx i),aC (t.ly i)]) 0 t.nl++
 bL (fun i=>lnW dU (dD (t.rx i) (t.ry i) 0 (t.rn i))) 0 t.nr++
 bL (fun i=>lnW gD [aC (t.ax i),aC (t.ay i),aC (t.bx i),aC (t.sb i),hC (t.sp i)]) 0 t.nt++
 lnW g8 [aC t.sx,aC t.sy,aJ t.head]++lnW oZ [aJ t.laps]
def vX(t:Trk):List Int:=tK t++aDk t
end Go.Se
namespace Go.Se
def aFd :List (List Int)->Nat
 | []=>0
 |w::r=>w.length+aFd r
theorem FP : ∀r:List (List Int),(iB r).length=aFd r+r.length
 | []=>rfl
 |w::r=>by
  show ((w++iB r).length+1)=w.length+aFd r+(r.length+1)
  rw [List.length_append,FP r];omega
end Go.Se
namespace Go.Se
abbrev ba(l:List Int):ByteArray:=bytesOf l
def rl(p:List Int):List Int:=aA (bytesOf p)
def lnV(b:Bk)(w:ByteArray)(n:Nat):List (List Int):=bif fN b w n n then List.replicate n [] else gW b
def lnB(all:Int)(b:Bk)(w:ByteArray)(n:Nat):Bk:=gB all b w n n
theorem QP{b:Bk}{w:ByteArray}{lo hi:Int}(h:fN b w lo hi=false):b.err=0/\b.q≠[]/\lo<=(gW b).length/\((gW b).length:Int)<=hi\/(cT b.q).2=[]:=by
 by_cases hz:(cT b.q).2=[]
 ·exact .inr hz
 left
 unfold fN at h
 rw [Bool.or_eq_false_iff] at h
 obtain ⟨h1,h2⟩:=h
 have e1:b.err=0:=by simpa using h1
 have e2:lH b w lo hi=0:=by simpa using h2
 unfold lH at e2
 cases hq:b.q.isEmpty with
 |true=>rw [hq] at e2;exact absurd (show (20:Int)=0 from e2) (by decide)
 |false=>
  rw [hq] at e2
  simp only [cond_false] at e2
  cases hw: !(bytesOf ((cT b.q).2.getD 0 [])==w) with
  |true=>rw [hw] at e2;exact absurd (show (21:Int)=0 from e2) (by decide)
  |false=>
   rw [hw] at e2
   simp only [cond_false] at e2
   cases hc:decide ((((cT b.q).2.length:Int) - 1)<lo)||decide ((((cT b.q).2.length:Int) - 1)>hi) with
   |true=>rw [hc] at e2;exact absurd (show (22:Int)=0 from e2) (by decide)
   |false=>
    simp only [Bool.or_eq_false_iff,decide_eq_false_iff_not] at hc
    have hl:0<(cT b.q).2.length:=List.length_pos_iff.2 hz
    refine ⟨e1,fun e=>(by rw [e] at hq;cases hq), ?_, ?_⟩<;>unfold gW<;>rw [List.length_tail]<;>omega
theorem GB{b:Bk}{w:ByteArray}{n:Nat}(hb:aK b)(h:fN b w n n=false):(gW b).length=n:=by
 rcases QP h with ⟨_,_,h1,h2⟩|h0
 ·omega
 ·unfold fN lH at h
  cases hq:b.q.isEmpty with
  |true=>rw [hq] at h;simp at h
  |false=>
   exfalso
   have hq':b.q≠[]:=fun e=>by rw [e] at hq;cases hq
   have:=(hb.head hq').1
   rw [h0] at this;exact absurd this (by decide)
theorem G5{b:Bk}{w:ByteArray}{n:Nat}(hb:aK b):(lnV b w n).length=n:=by
 unfold lnV
 cases h:fN b w n n with
 |true=>exact List.length_replicate
 |false=>exact GB hb h
def qY(s:List Int×Bk)(p:List Int):List Int×Bk:=(s.1++[tY s.2 (rl p)],jZ s.2 (rl p))
def iE(b:Bk)(p:List (List Int)):List Int×Bk:=p.foldl qY ([],b)
theorem OZ(b:Bk)(p:List (List Int))(x:List Int):iE b (p++[x])=qY (iE b p) x:=by
 unfold iE;rw [List.foldl_append];rfl
theorem tD(b:Bk): ∀p:List (List Int),(iE b p).1.length=p.length:=fun p=>by
 have: ∀(p:List (List Int)) (s:List Int×Bk),(p.foldl qY s).1.length=s.1.length+p.length:=by
  intro p
  induction p with
  |nil=>intro s;rfl
  |cons x r ih=>intro s;show (r.foldl qY (qY s x)).1.length=_;rw [ih];unfold qY;simp;omega
 have:=this p ([],b)
 unfold iE;rw [this];simp
def plP(b:Bk)(p:List (List Int))(i:Nat):(Int×Int)×Bk:=
 ((tY b (rl (p.getD i [])),tY (jZ b (rl (p.getD i []))) (rl (p.getD (i+1) []))),jZ (jZ b (rl (p.getD i []))) (rl (p.getD (i+1) [])))
def dS{α:Type}(f:Bk->List α×Bk):Nat->Bk->List α×Bk
 |0,b=>([],b)
 |n+1,b=>((dS f n b).1++(f (dS f n b).2).1,(f (dS f n b).2).2)
def cJ{α:Type}(w:ByteArray)(one:Bk->α×Bk):Nat->List α×Bk->List α×Bk
 |0,s=>s
 |n+1,s=>bif eY s.2 w then cJ w one n (s.1++[(one s.2).1],(one s.2).2) else s
def kU(all:Int)(n:Nat)(b:Bk):List Int×Bk:=iE (lnB all b (ba gM) n) (lnV b (ba gM) n)
def mF(lo hi:Int)(s:List Int×Bk)(p:List Int):List Int×Bk:=(s.1++[jT s.2 (rl p) lo hi],iC s.2 (rl p) lo hi)
def pG(all:Int)(n:Nat)(b:Bk):List Int×Bk:=(lnV b (ba iS) n).foldl (mF 0 7) ([],lnB all b (ba iS) n)
def gQ(all:Int)(b:Bk):(Int×Int×Bool)×Bk:=
 let p:=lnV b (ba iO) 3
 let b1:=lnB all b (ba iO) 3
 let b2:=jZ b1 (rl (p.getD 0 []))
 let b3:=jZ b2 (rl (p.getD 1 []))
 ((tY b1 (rl (p.getD 0 [])),tY b2 (rl (p.getD 1 [])),oJ b3 (ba (p.getD 2 [])) [ba wOn,ba IA]==1),jS b3 (ba (p.getD 2 [])) [ba wOn,ba IA])
def eQ(all:Int)(b:Bk):(Int×Int)×Bk:=plP (lnB all b (ba eZ) 2) (lnV b (ba eZ) 2) 0
def mY(b:Bk)(p:List (List Int)):Nat->List (Int×Int)×Bk
 |0=>([],b)
 |n+1=>((mY b p n).1++[(plP (mY b p n).2 p (2*n)).1],(plP (mY b p n).2 p (2*n)).2)
def eD(all:Int)(b:Bk):List (Int×Int)×Bk:=
 let p:=bif fN b (ba dU) 2 128 then [] else gW b
 let b1:=gB all b (ba dU) 2 128
 bif p.length%2==1 then ([],wS b1) else mY b1 p (p.length/2)
def iT(all:Int)(b:Bk):(Int×Int×Int×Int×Bool)×Bk:=
 let p:=lnV b (ba gD) 5
 let s:=plP (lnB all b (ba gD) 5) p 0
 let t:=plP s.2 p 2
 ((s.1.1,s.1.2,t.1.1,t.1.2,oJ t.2 (ba (p.getD 4 [])) [ba qQ,ba qF]==1),jS t.2 (ba (p.getD 4 [])) [ba qQ,ba qF])
def isB(b' b:Bk):Prop:=b'=b
def isW(p q:List (List Int)):Prop:=p=q
def OP(b:Bk)(s:ByteArray)(v:Int)(b':Bk):Prop:=v=tY b (aA s)/\b'=jZ b (aA s)
def MR(b:Bk)(s:ByteArray)(lo hi v:Int)(b':Bk):Prop:=v=jT b (aA s) lo hi/\b'=iC b (aA s) lo hi
def aDW(b:Bk)(s a c:ByteArray)(v:Int)(b':Bk):Prop:=v=oJ b s [a,c]/\b'=jS b s [a,c]
end Go.Se
namespace Go.Se
theorem aK.num{b:Bk}{p:List Int}(h:aK b):aK (jZ b p):=by unfold jZ;exact h.fail
theorem aK.int{b:Bk}{p:List Int}{lo hi:Int}(h:aK b):aK (iC b p lo hi):=by unfold iC;exact h.fail
theorem aK.one{b:Bk}{s:ByteArray}{ws:List ByteArray}(h:aK b):aK (jS b s ws):=by unfold jS;exact h.fail
theorem aK.odd{b:Bk}(h:aK b):aK (wS b):=by unfold wS;exact h.fail
def uN(all:Int)(b:Bk)(s:ByteArray)(n:Nat)(p:List (List Int))(b':Bk):Prop:=(p=lnV b s n/\p.length=n)/\b'=lnB all b s n
def cS(all:Int):Prop:=0<=all/\all<=1048577
end Go.Se
namespace Go.Se
def aFl(b:Bk)(p:List (List Int))(L:List Int)(b':Bk):Prop:=(L=(iE b p).1/\L.length=p.length)/\b'=(iE b p).2
def J7(b:Bk)(p:List (List Int))(x y:Int)(b':Bk):Prop:=(x,y)=(plP b p 0).1/\b'=(plP b p 0).2
theorem PX(b:Bk){p:List (List Int)}{i:Nat}(h:i<p.length):iE b (p.take (i+1))=qY (iE b (p.take i)) (p.getD i []):=by
 rw [List.take_add_one,List.getElem?_eq_getElem h]
 show iE b (p.take i++[p[i]])=_
 rw [OZ,List.getD_eq_getElem?_getD,List.getElem?_eq_getElem h];rfl
theorem aK.nums{b:Bk}(h:aK b)(p:List (List Int)):aK (iE b p).2:=by
 have: ∀(p:List (List Int)) (s:List Int×Bk),aK s.2->aK (p.foldl qY s).2:=by
  intro p
  induction p with
  |nil=>intro s h;exact h
  |cons x r ih=>intro s h;exact ih _ h.num
 exact this p _ h
theorem uR(p:List (List Int))(k:Nat):(fun i=>aH p (i+k))=aH (p.drop k):=by
 funext i
 show jJ (p.getD (i+k) [])=jJ ((p.drop k).getD i [])
 rw [List.getD_eq_getElem?_getD,List.getD_eq_getElem?_getD,List.getElem?_drop,Nat.add_comm]
theorem DI(b:Bk)(p:List (List Int))(k:Nat):plP b (p.drop k) 0=plP b p k:=by
 unfold plP
 have e: ∀j,(p.drop k).getD j []=p.getD (k+j) []:=fun j=>by rw [List.getD_eq_getElem?_getD,List.getD_eq_getElem?_getD,List.getElem?_drop]
 rw [e 0,e (0+1)];rfl
theorem LZ{all:Int}{b:Bk}(h:aK b):aK (gQ all b).2:=(aK.take h).num.num.one
theorem xD{all:Int}{b:Bk}(h:aK b):aK (eQ all b).2:=(aK.take h).num.num
theorem JV{all:Int}{b:Bk}(h:aK b):aK (iT all b).2:=(aK.take h).num.num.num.num.one
theorem QU{b:Bk}(h:aK b)(p:List (List Int)): ∀n,aK (mY b p n).2
 |0=>h
 |n+1=>(QU h p n).num.num
theorem wM{all:Int}{b:Bk}(h:aK b):aK (eD all b).2:=by
 unfold eD
 simp only
 cases (bif fN b (ba dU) 2 128 then [] else gW b).length%2==1
 ·exact QU h.take _ _
 ·exact h.take.odd
end Go.Se
namespace Go.Se
theorem EY{b:Bk}{w:ByteArray}{lo hi:Int}(hb:aK b)(h:fN b w lo hi=false):lo<=(gW b).length/\((gW b).length:Int)<=hi:=by
 rcases QP h with ⟨_,_,h1,h2⟩|h0
 ·exact ⟨h1,h2⟩
 ·unfold fN lH at h
  cases hq:b.q.isEmpty with
  |true=>rw [hq] at h;simp at h
  |false=>
   exfalso
   have hq':b.q≠[]:=fun e=>by rw [e] at hq;cases hq
   have:=(hb.head hq').1
   rw [h0] at this;exact absurd this (by decide)
theorem BH(b:Bk)(p:List (List Int)): ∀n,(mY b p n).1.length=n
 |0=>rfl
 |n+1=>by show ((mY b p n).1++[_]).length=n+1;rw [List.length_append,BH b p n];rfl
theorem TQ {α:Type} {env:Env} {W:Nat->St->Option St} {fn:Func} {path:List Nat} {blk:Nat} {KK:Ex->St->Prop} {e st id:Nat} {f:α->List SV} (F:Nat->List α) (S:SV->Option SB->Nat->St) (n:Nat) (h0:F 0=[])
  (hr: ∀i o b,i<n->bZ e st id f (F i) o b-> ∀X:St->Prop,(∀o' b',bZ e st id f (F (i+1)) o' b'->X (S o' b' (i+1)))->aF env W fn path blk (fQ X KK) (S o b i))
  (he: ∀o b,bZ e st id f (F n) o b-> ∀X:St->Prop,aF env W fn path blk (fQ X KK) (S o b n)):
  iter (aF env W fn path blk) KK (n+1) (S .nils none 0):=
 iA (fun a:SV×Option SB×Nat=>S a.1 a.2.1 a.2.2) (fun a=>n - a.2.2) (fun a=>a.2.2<=n/\bZ e st id f (F a.2.2) a.1 a.2.1) (fun ⟨o,b,i⟩ ⟨h1,h2⟩ X hX=>by
  simp only at h1 h2 hX|-
  by_cases h:i<n
  ·exact hr i o b h h2 X fun o' b' ht=>hX (o',b',i+1) ⟨h,ht⟩ (by show n - (i+1)<n - i;omega)
  ·obtain rfl:i=n:=by omega
   exact he o b h2 X) (n+1) (.nils,none,0) ⟨Nat.zero_le _,by rw [h0];exact kS⟩ (by show n - 0<n+1;omega)
theorem pH {α:Type} {e st id:Nat} {f:α->List SV} {L:List α} {b:SB} {K:KC} {o:SV} {r:Option SB} (ht:bZ e st id f L o r) (hK:nE e st f L b K)
  {G:Prop} (h0:o= .nils->r=none->K .nils [some b] [0]->G) (h1: ∀n g,o= .own id 0 st n->r=some (.row e st n g)->K (.own 1 0 st n) [some b,some (.row e st n g)] [0]->G):G:=by
 rcases ht with ⟨hL,rfl,rfl⟩|⟨g,hne,rfl,rfl,hg⟩
 ·exact h0 rfl rfl (hK.1 hL)
 ·exact h1 _ g rfl rfl (hK.2 g hne hg)
theorem MV{α:Type}{w:ByteArray}{one:Bk->α×Bk}{s:List α×Bk}(h:eY s.2 w=false): ∀n,cJ w one n s=s
 |0=>rfl
 |n+1=>by unfold cJ;rw [h];rfl
theorem tV {α:Type} {env:Env} {W:Nat->St->Option St} {fn:Func} {path:List Nat} {blk:Nat} {KK:Ex->St->Prop} {e st id:Nat} {f:α->List SV} {w:ByteArray} {one:Bk->α×Bk} (S:SV->Option SB->Bk->St) (most:Nat) (b0:Bk) (hb0:aK b0) (hone: ∀b,aK b->aK (one b).2)
  (hr: ∀(L:List α) (b:Bk) (o:SV) (r:Option SB),aK b->L.length<=most->bZ e st id f L o r-> ∀X:St->Prop,
   (L.length<most->eY b w=true-> ∀o' r',bZ e st id f (L++[(one b).1]) o' r'->X (S o' r' (one b).2))->
   ((L.length<most->eY b w=false)->KK (.exit 0) (S o r b))->aF env W fn path blk (fQ X KK) (S o r b))
  (he: ∀(o:SV) (r:Option SB),bZ e st id f (cJ w one most ([],b0)).1 o r->aK (cJ w one most ([],b0)).2->(cJ w one most ([],b0)).1.length<=most->KK (.exit 0) (S o r (cJ w one most ([],b0)).2)):
  iter (aF env W fn path blk) KK (most+1) (S .nils none b0):=by
 refine iA (fun a:SV×Option SB×List α×Bk=>S a.1 a.2.1 a.2.2.2) (fun a=>most - a.2.2.1.length) (fun a=>(a.2.2.1.length<=most/\aK a.2.2.2)/\bZ e st id f a.2.2.1 a.1 a.2.1/\cJ w one (most - a.2.2.1.length) a.2.2=cJ w one most ([],b0)) ?_ (most+1) (.nils,none,[],b0) ⟨⟨Nat.zero_le _,hb0⟩,kS,rfl⟩ (by show most - 0<most+1;omega)
 rintro ⟨o,r,L,b⟩ ⟨⟨h1,hb⟩,h2,h3⟩ X hX
 simp only at h1 hb h2 h3 hX|-
 refine hr L b o r hb h1 h2 X (fun hl hn o' r' ht=> ?_) fun hc=> ?_
 ·refine hX (o',r',L++[(one b).1],(one b).2) ⟨⟨by show (L++[(one b).1]).length<=most;rw [List.length_append];exact hl,hone b hb⟩,ht, ?_⟩ (by show most - (L++[(one b).1]).length<most - L.length;rw [List.length_append,List.length_singleton];omega)
  show cJ w one (most - (L++[(one b).1]).length) (L++[(one b).1],(one b).2)=_
  rw [<- h3,List.length_append,List.length_singleton,show most - L.length=(most - (L.length+1))+1 by omega]
  conv=>rhs;unfold cJ
  rw [hn];rfl
 ·have hm:cJ w one most ([],b0)=(L,b):=by
   rw [<- h3]
   by_cases hl:L.length<most
   ·exact MV (hc hl) _
   ·rw [show most - L.length=0 by omega];rfl
  have:=he o r (by rw [hm];exact h2) (by rw [hm];exact hb) (by rw [hm];exact h1)
  rw [hm] at this;exact this
end Go.Se
namespace Go.Se
def PR{α:Type}(w:ByteArray)(F:Bk->α×Bk)(m:Nat)(b:Bk)(L:List α)(b':Bk):Prop:=(L,b')=cJ w F m ([],b)
end Go.Se
namespace Go.Se
def isF{α:Type}(F:Int->Bk->α×Bk)(all:Int)(b:Bk)(x:α)(b':Bk):Prop:=(x,b')=F all b
theorem mQ{α:Type}{F:Int->Bk->α×Bk}{all:Int}{b:Bk}{x:α}{b':Bk}(h:isF F all b x b'):x=(F all b).1/\b'=(F all b).2:=⟨congrArg Prod.fst h,congrArg Prod.snd h⟩
end Go.Se
namespace Go.Se
def EG(all:Int)(w:ByteArray)(lo hi:Int)(b:Bk):Int×Bk:=(jT (lnB all b w 1) (rl ((lnV b w 1).getD 0 [])) lo hi,iC (lnB all b w 1) (rl ((lnV b w 1).getD 0 [])) lo hi)
def K5(all:Int)(w:ByteArray)(b:Bk):Int×Bk:=(tY (lnB all b w 1) (rl ((lnV b w 1).getD 0 [])),jZ (lnB all b w 1) (rl ((lnV b w 1).getD 0 [])))
def u5(all:Int)(b:Bk):(Int×Int)×Bk:=
 let p:=lnV b (ba nX) 2
 let b1:=lnB all b (ba nX) 2
 let b2:=iC b1 (rl (p.getD 0 [])) 1 64
 ((jT b1 (rl (p.getD 0 [])) 1 64,jT b2 (rl (p.getD 1 [])) 1 64),iC b2 (rl (p.getD 1 [])) 1 64)
def nK(all:Int)(b:Bk):(Int×Int)×Bk:=plP (lnB all b (ba kC) 2) (lnV b (ba kC) 2) 0
def eO(all:Int)(b:Bk):TL×Bk:=
 let r:=EG all (ba rO) 60 1024 b
 let c:=K5 all (ba s5) r.2
 let s:=u5 all c.2
 let o:=nK all s.2
 let h:=dS (kU all (s.1.1+1).toNat) (s.1.2+1).toNat o.2
 let g:=dS (pG all s.1.1.toNat) s.1.2.toNat h.2
 let k:=cJ (ba iO) (gQ all) 8 ([],g.2)
 (⟨r.1,c.1,s.1.1,s.1.2,o.1,h.1,g.1,k.1,[],[],[],(0,0),0,0⟩,k.2)
theorem QF{all:Int}{w:ByteArray}{lo hi:Int}{b:Bk}(h:aK b):aK (EG all w lo hi b).2:=(aK.take h).int
theorem R0{all:Int}{w:ByteArray}{b:Bk}(h:aK b):aK (K5 all w b).2:=(aK.take h).num
theorem Q2{all:Int}{b:Bk}(h:aK b):aK (u5 all b).2:=(aK.take h).int.int
theorem DP{all:Int}{b:Bk}(h:aK b):aK (nK all b).2:=(aK.take h).num.num
theorem HP{all:Int}{n:Nat}{b:Bk}(h:aK b):aK (kU all n b).2:=aK.nums (aK.take h) _
theorem aCR(lo hi:Int): ∀(p:List (List Int)) (s:List Int×Bk),aK s.2->aK (p.foldl (mF lo hi) s).2:=by
 intro p
 induction p with
 |nil=>intro s h;exact h
 |cons x r ih=>intro s h;exact ih _ h.int
theorem B9(lo hi:Int): ∀(p:List (List Int)) (s:List Int×Bk),(p.foldl (mF lo hi) s).1.length=s.1.length+p.length:=by
 intro p
 induction p with
 |nil=>intro s;rfl
 |cons x r ih=>intro s;show (r.foldl (mF lo hi) (mF lo hi s x)).1.length=_;rw [ih];unfold mF;simp;omega
theorem HL{all:Int}{n:Nat}{b:Bk}(h:aK b):aK (pG all n b).2:=aCR 0 7 _ _ (aK.take h)
theorem CH{all:Int}{n:Nat}{b:Bk}(h:aK b):(kU all n b).1.length=n:=by unfold kU;rw [tD,G5 h]
theorem X6{all:Int}{n:Nat}{b:Bk}(h:aK b):(pG all n b).1.length=n:=by unfold pG;rw [B9,G5 h];simp
theorem oS{α:Type}{f:Bk->List α×Bk}(hf: ∀b,aK b->aK (f b).2){b:Bk}(h:aK b): ∀n,aK (dS f n b).2
 |0=>h
 |n+1=>hf _ (oS hf h n)
theorem xK{α:Type}{f:Bk->List α×Bk}{m:Nat}(hf: ∀b,aK b->aK (f b).2)(hl: ∀b,aK b->(f b).1.length=m){b:Bk}(h:aK b): ∀n,(dS f n b).1.length=n*m
 |0=>by rw [Nat.zero_mul];rfl
 |n+1=>by show ((dS f n b).1++(f (dS f n b).2).1).length=_;rw [List.length_append,xK hf hl h n,hl _ (oS hf h n),Nat.add_mul,Nat.one_mul]
theorem pL{α:Type}{w:ByteArray}{one:Bk->α×Bk}(h1: ∀b,aK b->aK (one b).2): ∀(n:Nat) (s:List α×Bk),aK s.2->aK (cJ w one n s).2
 |0,_,h=>h
 |n+1,s,h=>by
  unfold cJ
  cases eY s.2 w
  ·exact h
  ·exact pL h1 n _ (h1 _ h)
theorem xQ{α:Type}{w:ByteArray}{one:Bk->α×Bk}: ∀(n:Nat) (s:List α×Bk),(cJ w one n s).1.length<=s.1.length+n
 |0,_=>Nat.le_refl _
 |n+1,s=>by
  unfold cJ
  cases eY s.2 w
  ·exact Nat.le_add_right _ _
  ·have:=xQ (w:=w) (one:=one) n (s.1++[(one s.2).1],(one s.2).2)
   simp only [List.length_append,List.length_singleton] at this
   show (cJ w one n (s.1++[(one s.2).1],(one s.2).2)).1.length<=_
   omega
theorem BK{all:Int}{b:Bk}(h:aK b):aK (eO all b).2:=
 pL (fun _ h=>LZ h) _ _ (oS (fun _ h=>HL h) (oS (fun _ h=>HP h) (DP (Q2 (R0 (QF h)))) _) _)
theorem PJ{σ:Type}(f:σ->List Int->σ)(s:σ){p:List (List Int)}{i:Nat}(h:i<p.length):(p.take (i+1)).foldl f s=f ((p.take i).foldl f s) (p.getD i []):=by
 rw [List.take_add_one,List.getElem?_eq_getElem h]
 show (p.take i++[p[i]]).foldl f s=_
 rw [List.foldl_append,List.getD_eq_getElem?_getD,List.getElem?_eq_getElem h];rfl
theorem wX{b:Bk}{l:List Int}{lo hi:Int}:(jT b l lo hi=0/\ ¬(iC b l lo hi).err=0)\/(lo<=jT b l lo hi/\jT b l lo hi<=hi):=by
 unfold jT iC jN xY
 cases hb:b.err==0 with
 |false=>exact .inl ⟨rfl,by simpa using hb⟩
 |true=>
  cases hw:iQ l==0 with
  |false=>exact .inl ⟨rfl,show¬(24:Int)=0 by decide⟩
  |true=>
   simp only [cond_true,Bool.true_and]
   cases hr:decide (fF l<lo)||decide (fF l>hi) with
   |true=>exact .inl ⟨rfl,show¬(40:Int)=0 by decide⟩
   |false=>
    simp only [Bool.or_eq_false_iff,decide_eq_false_iff_not] at hr
    exact .inr ⟨by show lo<=fF l;omega,by show fF l<=hi;omega⟩
theorem ZW{b:Bk}{l:List Int}{lo hi:Int}(h: ¬b.err=0):jT b l lo hi=0:=by
 unfold jT
 rw [show (b.err==0)=false from by simpa using h];rfl
theorem YQ(all:Int)(b:Bk):(0<=(u5 all b).1.1/\(u5 all b).1.1<=64)/\(0<=(u5 all b).1.2/\(u5 all b).1.2<=64)/\((u5 all b).1.2≠0->1<=(u5 all b).1.1):=by
 unfold u5
 simp only
 generalize lnB all b (ba nX) 2=b1
 generalize rl ((lnV b (ba nX) 2).getD 0 [])=l
 generalize rl ((lnV b (ba nX) 2).getD 1 [])=l2
 have h2:(jT (iC b1 l 1 64) l2 1 64=0)\/(1<=jT (iC b1 l 1 64) l2 1 64/\jT (iC b1 l 1 64) l2 1 64<=64):=by
  rcases wX (b:=iC b1 l 1 64) (l:=l2) (lo:=1) (hi:=64) with h|h
  ·exact .inl h.1
  ·exact .inr h
 rcases wX (b:=b1) (l:=l) (lo:=1) (hi:=64) with ⟨h1,he⟩|h1
 ·have:=ZW (l:=l2) (lo:=1) (hi:=64) he
  exact ⟨by omega,by omega,fun h=>absurd this h⟩
 ·exact ⟨by omega,by omega,fun _=>h1.1⟩
theorem NJ{α:Type}{e st id m n:Nat}{f:α->List SV}{L p:List α}{g h:Nat->List SV}(hp:p≠[])(hm:m=L.length)(hn:n=p.length)(hg: ∀j (h:j<L.length),g j=f L[j])(hh: ∀j (x:j<p.length),h j=f p[j]):
  bZ e st id f (L++p) (.own id 0 st (m+n)) (some (.row e st (m+n) (oH m g h))):=
 .inr ⟨oH m g h,by simp [hp],by rw [hm,hn];simp,by rw [hm,hn];simp,fun j hj=>by
  unfold oH
  by_cases c:j<m
  ·rw [show Nat.blt j m=true from Nat.ble_eq_true_of_le c]
   rw [List.getElem_append_left (by omega)]
   exact hg j (by omega)
  ·rw [show Nat.blt j m=false from Bool.eq_false_iff.2 fun x=>c (Nat.le_of_ble_eq_true x)]
   rw [List.length_append] at hj
   rw [List.getElem_append_right (by omega)]
   show h (j - m)=_
   subst hm
   exact hh (j - L.length) (by omega)⟩
theorem uT {α:Type} {env:Env} {W:Nat->St->Option St} {fn:Func} {path:List Nat} {blk:Nat} {KK:Ex->St->Prop} {e st id:Nat} {f:α->List SV} (F:Nat->List α) (S:SV->Option SB->Nat->St) (n:Nat) {o0:SV} {r0:Option SB} (h0:bZ e st id f (F 0) o0 r0)
  (hr: ∀i o b,i<n->bZ e st id f (F i) o b-> ∀X:St->Prop,(∀o' b',bZ e st id f (F (i+1)) o' b'->X (S o' b' (i+1)))->aF env W fn path blk (fQ X KK) (S o b i))
  (he: ∀o b,bZ e st id f (F n) o b-> ∀X:St->Prop,aF env W fn path blk (fQ X KK) (S o b n)):
  iter (aF env W fn path blk) KK (n+1) (S o0 r0 0):=
 iA (fun a:SV×Option SB×Nat=>S a.1 a.2.1 a.2.2) (fun a=>n - a.2.2) (fun a=>a.2.2<=n/\bZ e st id f (F a.2.2) a.1 a.2.1) (fun ⟨o,b,i⟩ ⟨h1,h2⟩ X hX=>by
  simp only at h1 h2 hX|-
  by_cases h:i<n
  ·exact hr i o b h h2 X fun o' b' ht=>hX (o',b',i+1) ⟨h,ht⟩ (by show n - (i+1)<n - i;omega)
  ·obtain rfl:i=n:=by omega
   exact he o b h2 X) (n+1) (o0,r0,0) ⟨Nat.zero_le _,h0⟩ (by show n - 0<n+1;omega)
end Go.Se
namespace Go.Proofs.YtghnfjfkjhbgdaaGreatDoor
open Go.Se
set_option maxRecDepth 100000
def dTk :List SV->List (Option SB)->KC->Prop
 | [.ptr 0 0,.str w,.int .i64 lo,.int .i64 hi],[some (.cells 130 cs)],K=> ∃(b:Bk) (all:Int),(cs=bkC all b/\aK b/\(0<=all/\all<=1048577))/\ ∀b':Bk,isB b' (gB all b w lo hi)->
   Br (fN b w lo hi) (K .nils [some (.cells 130 (bkC all b'))] [0]) (∀p:List (List Int),isW p (gW b)->K (.ro p.length 1 (aH p)) [some (.cells 130 (bkC all b'))] [0])
 |_,_,_=>False
theorem aCe(xs:List SV)(σ:List (Option SB)):Sat Tryz.prog 81 xs σ (dTk xs σ):=by
 intro K hK
 unfold dTk at hK
 split at hK
 case h_2=>exact hK.elim
 obtain ⟨b,all,h,hK⟩:=hK
 refine ZU _ _ K ?_
 unfold cTk
 refine ⟨b,all,h, ?_⟩
 rcases Br.elim (hK _ rfl) with ⟨c,hK⟩|⟨c,hK⟩
 ·rw [c];exact hK
 ·rw [c];exact hK _ rfl
def dNm :List SV->List (Option SB)->KC->Prop
 | [.ptr 0 0,.str s],[some (.cells 130 cs)],K=> ∃(b:Bk) (all:Int),cs=bkC all b/\ ∀(v:Int) (b':Bk),OP b s v b'->K (.int .i64 v) [some (.cells 130 (bkC all b'))] [0]
 |_,_,_=>False
theorem aCx(xs:List SV)(σ:List (Option SB)):Sat Tryz.prog 76 xs σ (dNm xs σ):=by
 intro K hK
 unfold dNm at hK
 split at hK
 case h_2=>exact hK.elim
 obtain ⟨b,all,h,hK⟩:=hK
 exact aA6 _ _ K ⟨b,all,h,hK _ _ ⟨rfl,rfl⟩⟩
def dIt :List SV->List (Option SB)->KC->Prop
 | [.ptr 0 0,.str s,.int .i64 lo,.int .i64 hi],[some (.cells 130 cs)],K=> ∃(b:Bk) (all:Int),cs=bkC all b/\ ∀(v:Int) (b':Bk),MR b s lo hi v b'->K (.int .i64 v) [some (.cells 130 (bkC all b'))] [0]
 |_,_,_=>False
theorem aBq(xs:List SV)(σ:List (Option SB)):Sat Tryz.prog 41 xs σ (dIt xs σ):=by
 intro K hK
 unfold dIt at hK
 split at hK
 case h_2=>exact hK.elim
 obtain ⟨b,all,h,hK⟩:=hK
 exact Y6 _ _ K ⟨b,all,h,hK _ _ ⟨rfl,rfl⟩⟩
def dOn :List SV->List (Option SB)->KC->Prop
 | [.ptr 0 0,.str s,.arr 1 0 2 2],[some (.cells 130 cs),some (.cells t [.str a,.str c])],K=> ∃(b:Bk) (all:Int),cs=bkC all b/\ ∀(v:Int) (b':Bk),aDW b s a c v b'->K (.int .i64 v) [some (.cells 130 (bkC all b')),some (.cells t [.str a,.str c])] [0]
 |_,_,_=>False
theorem aCa(xs:List SV)(σ:List (Option SB)):Sat Tryz.prog 83 xs σ (dOn xs σ):=by
 intro K hK
 unfold dOn at hK
 split at hK
 case h_2=>exact hK.elim
 obtain ⟨b,all,h,hK⟩:=hK
 exact aAa _ _ K ⟨b,all,h,hK _ _ ⟨rfl,rfl⟩⟩
def dOd :List SV->List (Option SB)->KC->Prop
 | [.ptr 0 0],[some (.cells 130 cs)],K=> ∃(b:Bk) (all:Int),cs=bkC all b/\ ∀b':Bk,isB b' (wS b)->K (.tup []) [some (.cells 130 (bkC all b'))] [0]
 |_,_,_=>False
theorem aBs(xs:List SV)(σ:List (Option SB)):Sat Tryz.prog 82 xs σ (dOd xs σ):=by
 intro K hK
 unfold dOd at hK
 split at hK
 case h_2=>exact hK.elim
 obtain ⟨b,all,h,hK⟩:=hK
 exact Z8 _ _ K ⟨b,all,h,hK _ rfl⟩
noncomputable def o1 :bU Tryz.prog:=((((((((y6).add 31 (lF aCo) (d9 fun xs σ v σ' d h=>by
  unfold aCo at h;split at h
  ·simp only [Option.some.injEq,Prod.mk.injEq] at h
   obtain ⟨h1,rfl,rfl,rfl⟩:=h
   first|exact aT h1|exact aT _ h1|exact aT _ _ h1|exact aT _ _ _ h1|exact aT _ _ _ _ h1|exact aT _ _ _ _ _ h1|exact aT _ _ _ _ _ _ h1|exact aT _ _ _ _ _ _ _ h1|exact aT _ _ _ _ _ _ _ _ h1|exact aT _ _ _ _ _ _ _ _ _ h1|exact aT _ _ _ _ _ _ _ _ _ _ h1|exact aT _ _ _ _ _ _ _ _ _ _ _ h1|exact aT _ _ _ _ _ _ _ _ _ _ _ _ h1|exact aT (of_decide_eq_true h1)|exact aT _ (of_decide_eq_true h1)|exact aT _ _ (of_decide_eq_true h1)|exact aT _ _ _ (of_decide_eq_true h1)|exact aT _ _ _ _ (of_decide_eq_true h1)|exact aT _ _ _ _ _ (of_decide_eq_true h1)|exact aT _ _ _ _ _ _ (of_decide_eq_true h1)|exact aT _ _ _ _ _ _ _ (of_decide_eq_true h1)|exact aT _ _ _ _ _ _ _ _ (of_decide_eq_true h1)|exact aT _ _ _ _ _ _ _ _ _ (of_decide_eq_true h1)|exact aT _ _ _ _ _ _ _ _ _ _ (of_decide_eq_true h1)|exact aT _ _ _ _ _ _ _ _ _ _ _ (of_decide_eq_true h1)|exact aT _ _ _ _ _ _ _ _ _ _ _ _ (of_decide_eq_true h1)
  ·cases h)).add 81 dTk aCe).add 80 cNx aAT).add 76 dNm aCx).add 41 dIt aBq).add 83 dOn aCa).add 82 dOd aBs).add 42 cEn aA3
theorem aDF(s:ByteArray)(n:Nat)(b:Bk)(all:Int)(K:KC):run o1 3 39 [.agg [.ptr 0 0],.str s,.int .i64 n] [some (.cells 130 (bkC all b))] K=
 (∃(e400:Bk),∃(e399:Int),((bkC all b)=bkC e399 e400/\aK e400/\0<=e399/\e399<=1048577)/\(∀(b'397:Bk),∀(_:isB b'397 (gB e399 e400 s (↑n:Int) (↑n:Int))),Br (fN e400 s (↑n:Int) (↑n:Int)) (Br (decide (0<=(↑n:Int))&&(decide ((↑n:Int)<=(↑n:Int))&&(decide ((↑n:Int)*16<=1099511627776)&&decide ((↑n:Int)<9223372036854775808)))) (K (SV.own 1 0 1 (↑n:Int).toNat) [some (SB.cells 130 (bkC e399 b'397)),some (SB.row 9 1 (↑n:Int).toNat fun (x:Nat)=>[SV.str (⟨#[]⟩:ByteArray)])] [0]) (False)) (∀(p394:List (List Int)),∀(_:isW p394 (gW e400)),Br (decide (0<p394.length)) (K (SV.ro p394.length 1 (aH p394)) [some (SB.cells 130 (bkC e399 b'397))] [0]) (False)))):=by kernel_rfl
end Go.Proofs.YtghnfjfkjhbgdaaGreatDoor
namespace Go.Proofs.YtghnfjfkjhbgdaaGreatDoor
open Go.Se
set_option maxRecDepth 100000
theorem aGs(s:ByteArray)(n:Nat)(b:Bk)(all:Int)(hb:aK b)(ha:cS all)(hn:n<=1000)(h0:0<n):
  aD Tryz.prog 39 [.agg [.ptr 0 0],.str s,.int .i64 n] [some (.cells 130 (bkC all b))] (.ro n 1 (aH (lnV b s n))) [some (.cells 130 (bkC all (lnB all b s n)))] [0]:=by
 cases hc:fN b s n n with
 |false=>
  have hl:=GB hb hc
  refine aW o1 3 fun _ _ K hK=> ?_
  rw [aDF]
  refine ⟨b,all,⟨rfl,hb,ha⟩,fun b' h'=> ?_⟩
  rw [hc]
  refine fun p hp=>Br.of (fun _=> ?_) fun c=>absurd (of_decide_eq_false c) (by rw [hp,hl];omega)
  have e:lnV b s n=gW b:=by unfold lnV;rw [hc];rfl
  rw [e] at hK
  rw [hp,hl,h'];exact hK
 |true=>
  have e:lnV b s n=List.replicate n []:=by unfold lnV;rw [hc];rfl
  rw [e]
  refine sO (T0:=130) (e:=9) (g:=fun _=>[SV.str (⟨#[]⟩:ByteArray)]) (st:=1) rfl (fun i hi=>⟨?_,rfl⟩) (aW o1 3 fun _ _ K hK=> ?_)
  ·show _=jJ ((List.replicate n []).getD i [])
   rw [List.getD_eq_getElem?_getD,List.getElem?_replicate,if_pos hi];rfl
  ·rw [aDF]
   refine ⟨b,all,⟨rfl,hb,ha⟩,fun b' h'=> ?_⟩
   rw [hc]
   refine Br.of (fun _=>Br.of (fun _=> ?_) fun c=>absurd c (by simp;omega)) fun c=>by cases c
   rw [h',Int.toNat_natCast];exact hK
def dLi :List SV->List (Option SB)->KC->Prop
 | [.agg [.ptr 0 0],.str s,.int .i64 n],[some (.cells 130 cs)],K=> ∃(b:Bk) (all:Int) (m:Nat),((cs=bkC all b/\n=(m:Int))/\aK b/\cS all/\0<m/\m<=1000)/\ ∀(p:List (List Int)) (b':Bk),uN all b s m p b'->K (.ro m 1 (aH p)) [some (.cells 130 (bkC all b'))] [0]
 |_,_,_=>False
theorem aB1(xs:List SV)(σ:List (Option SB)):Sat Tryz.prog 39 xs σ (dLi xs σ):=by
 intro K hK
 unfold dLi at hK
 split at hK
 case h_2=>exact hK.elim
 obtain ⟨b,all,m,⟨⟨rfl,rfl⟩,hb,ha,h0,hm⟩,hK⟩:=hK
 exact ⟨_,_,_,hK _ _ ⟨⟨rfl,G5 hb⟩,rfl⟩,aGs _ m b all hb ha hm h0⟩
noncomputable def o2 :bU Tryz.prog:=(o1).add 39 dLi aB1
def D0 :List (Nat×e9):=[(0,⟨[2,5,11,12,13],[0,1,2],[0,1,2,3,4,5,6,7,8],3,[(5,2)]⟩)]
noncomputable abbrev V2 :Env:=gC D0 (fun _=>0) o2 2
noncomputable abbrev WE :Func:=Tryz.f77
abbrev WD :List Nat:=[1,1,0,1,0]
theorem OI(n:Nat)(g:List (List Int))(b:Bk)(all:Int)(K:KC):eL D0 (fun _=>0) o2 3 77 [.agg [.ptr 0 0],.ro n 1 (aH g)] [some (.cells 130 (bkC all b))] K=
 (Br (true&&(decide (0<=(↑n:Int))&&(decide ((↑n:Int)*8<=1099511627776)&&decide ((↑n:Int)<9223372036854775808)))) (∃q_,bS V2 (aB D0 1) WE WD 0 1 K q_ {tmps:=[(2,SV.ptr 1 0),(5,SV.own 2 0 1 0),(11,SV.ro n 1 (aH g)),(12,SV.int .i64 (↑n:Int)),(13,SV.int .i64 0)],store:=[(0,some (SB.cells 130 (bkC all b))),(1,some (SB.cells 71 [SV.ptr 0 0])),(2,some (SB.row 22 1 0 fun (x:Nat)=>[SV.int .i64 0]))],nxt:=3,dirty:=[0,1,2,3,4,5,6,7,8],nt:=26}) (False)):=by kernel_rfl
def aAc(n:Nat)(p:List (List Int))(all:Int)(b:Bk)(m:Nat)(g:Nat->List SV)(i:Int):St:=⟨[(2,.ptr 1 0),(5,.own 2 0 1 m),(11,.ro n 1 (aH p)),(12,.int .i64 n),(13,.int .i64 i)],[(0,some (.cells 130 (bkC all b))),(1,some (.cells 71 [.ptr 0 0])),(2,some (.row 22 1 m g))],3,[0,1,2,3,4,5,6,7,8],26⟩
theorem CY(n:Nat)(p:List (List Int))(all:Int)(b:Bk)(m:Nat)(g:Nat->List SV)(i:Nat)(K:Ex->St->Prop):aF V2 (aB D0 1) WE WD 0 K (aAc n p all b m g i)=
 (Br (decide ((↑i:Int)<(↑n:Int))) (Br (decide (0<=(↑i:Int))&&decide ((↑i:Int)<(↑n:Int))) (∃(e398:Bk),∃(e397:Int),((bkC all b)=bkC e397 e398)/\(∀(v395:Int),∀(b'394:Bk),∀(_:OP e398 (bytesOf (p.getD (↑i:Int).toNat [])) v395 b'394),Br (decide ((m+1)*8<=1099511627776)&&decide (m+1<9223372036854775808)&&decide (m=m)) (K Ex.normal {tmps:=[(2,SV.ptr 1 0),(5,SV.own 2 0 1 (m+1)),(11,SV.ro n 1 (aH p)),(12,SV.int .i64 (↑n:Int)),(13,SV.int .i64 (IntKind.i64.wrap ((↑i:Int)+1)))],store:=[(0,some (SB.cells 130 (bkC e397 b'394))),(1,some (SB.cells 71 [SV.ptr 0 0])),(2,some (SB.row 22 1 (m+1) (bJ m [SV.int .i64 v395] g)))],nxt:=3,dirty:=[0,1,2,3,4,5,6,7,8],nt:=26}) (False))) (False)) (K (Ex.exit 0) {tmps:=[(2,SV.ptr 1 0),(5,SV.own 2 0 1 m),(11,SV.ro n 1 (aH p)),(12,SV.int .i64 (↑n:Int)),(13,SV.int .i64 (↑i:Int))],store:=[(0,some (SB.cells 130 (bkC all b))),(1,some (SB.cells 71 [SV.ptr 0 0])),(2,some (SB.row 22 1 m g))],nxt:=3,dirty:=[0,1,2,3,4,5,6,7,8],nt:=26})):=by kernel_rfl
theorem NM(n:Nat)(p:List (List Int))(all:Int)(b:Bk)(m:Nat)(g:Nat->List SV)(i:Nat)(K:KC):aE V2 (aB D0 1) WE WD 1 K (.exit 0) (aAc n p all b m g i)=
 (K (SV.own 1 0 1 m) [some (SB.cells 130 (bkC all b)),some (SB.row 22 1 m g)] [0]):=by kernel_rfl
theorem aFX(n:Nat)(g:List (List Int))(b:Bk)(all:Int)(K:KC):run o2 3 40 [.agg [.ptr 0 0],.ro n 1 (aH g)] [some (.cells 130 (bkC all b))] K=
 (Br (true&&decide (0<(↑n:Int))) (∃(e399:Bk),∃(e398:Int),((bkC all b)=bkC e398 e399)/\(∀(v396:Int),∀(b'395:Bk),∀(_:OP e399 (bytesOf (g.getD (Int.toNat 0) [])) v396 b'395),Br (true&&decide (1<(↑n:Int))) (∃(e392:Bk),∃(e391:Int),((bkC e398 b'395)=bkC e391 e392)/\(∀(v389:Int),∀(b'388:Bk),∀(_:OP e392 (bytesOf (g.getD (Int.toNat 1) [])) v389 b'388),K (SV.agg [SV.int .i64 v396,SV.int .i64 v389]) [some (SB.cells 130 (bkC e391 b'388))] [0])) (False))) (False)):=by kernel_rfl
theorem YW(p:List (List Int))(all:Int)(b0:Bk)(hp:p.length<=1000)(K:KC)(hK:K (.own 1 0 1 p.length) [some (.cells 130 (bkC all (iE b0 p).2)),some (.row 22 1 p.length (aY eR 0 (iE b0 p).1))] [0]):
  eL D0 (fun _=>0) o2 3 77 [.agg [.ptr 0 0],.ro p.length 1 (aH p)] [some (.cells 130 (bkC all b0))] K:=by
 rw [OI]
 refine Br.of (fun _=>⟨p.length+1, ?_⟩) fun c=>absurd c (by simp;omega)
 show iter (aF V2 (aB D0 1) WE WD 0) (aE V2 (aB D0 1) WE WD 1 K) (p.length+1) (aAc p.length p all (iE b0 (p.take 0)).2 (iE b0 (p.take 0)).1.length (aY eR 0 (iE b0 (p.take 0)).1) ((0:Nat):Int))
 refine jC (fun i:Nat=>aAc p.length p all (iE b0 (p.take i)).2 (iE b0 (p.take i)).1.length (aY eR 0 (iE b0 (p.take i)).1) (i:Int)) p.length (fun _=>True) (fun i hi _ X hX=> ?_) (fun _ X=> ?_) trivial
 ·have hX:=hX trivial
  have hl:=tD b0 (p.take i)
  rw [List.length_take] at hl
  rw [PX b0 hi] at hX
  simp only [qY,<- BO,List.length_append,List.length_singleton] at hX
  rw [CY,aQ hi (by omega),Int.toNat_natCast]
  refine Br.of (fun _=>Br.of (fun _=>⟨_,all,rfl,fun v b' hv=>Br.of (fun _=> ?_) fun c=>absurd c (by simp;omega)⟩) fun c=>oO hi c) fun c=>nZ hi c
  rw [hv.1,hv.2];exact hX
 ·rw [CY,List.take_length]
  refine Br.of (fun c=>mZ c) fun _=> ?_
  show aE V2 (aB D0 1) WE WD 1 K (.exit 0) (aAc p.length p all (iE b0 p).2 (iE b0 p).1.length (aY eR 0 (iE b0 p).1) (p.length:Nat))
  rw [NM,tD];exact hK
def dNs :List SV->List (Option SB)->KC->Prop
 | [.agg [.ptr 0 0],.ro n 1 g],[some (.cells 130 cs)],K=> ∃(p:List (List Int)) (b:Bk) (all:Int),((cs=bkC all b/\n=p.length/\g=aH p)/\p.length<=1000)/\ ∀(L:List Int) (b':Bk),aFl b p L b'->K (.ro n 1 (aY eR 0 L)) [some (.cells 130 (bkC all b'))] [0]
 |_,_,_=>False
theorem aCU(xs:List SV)(σ:List (Option SB)):Sat Tryz.prog 77 xs σ (dNs xs σ):=by
 intro K hK
 unfold dNs at hK
 split at hK
 case h_2=>exact hK.elim
 obtain ⟨p,b,all,⟨⟨rfl,rfl,rfl⟩,hp⟩,hK⟩:=hK
 refine ⟨_,_,_,hK _ _ ⟨⟨rfl,tD b p⟩,rfl⟩,sO (T0:=130) (e:=22) rfl (fun i _=>⟨rfl,rfl⟩) (iF D0 (fun _=>0) o2 3 (fun q h=> ?_) fun _ _ K hK=>YW p all b hp K (hK [0] fun _ h=>h))⟩
 show q<1
 obtain rfl:=List.mem_singleton.1 h;exact Nat.one_pos
def dPl :List SV->List (Option SB)->KC->Prop
 | [.agg [.ptr 0 0],.ro n 1 g],[some (.cells 130 cs)],K=> ∃(p:List (List Int)) (b:Bk) (all:Int),(cs=bkC all b/\g=aH p/\2<=n)/\ ∀(x y:Int) (b':Bk),J7 b p x y b'->K (.agg [.int .i64 x,.int .i64 y]) [some (.cells 130 (bkC all b'))] [0]
 |_,_,_=>False
theorem aB7(xs:List SV)(σ:List (Option SB)):Sat Tryz.prog 40 xs σ (dPl xs σ):=by
 intro K hK
 unfold dPl at hK
 split at hK
 case h_2=>exact hK.elim
 obtain ⟨p,b,all,⟨rfl,rfl,hn⟩,hK⟩:=hK
 refine ⟨_,_,_,hK _ _ _ ⟨rfl,rfl⟩,aW o2 3 fun _ _ K hK=> ?_⟩
 rw [aFX]
 refine Br.of (fun _=>⟨b,all,rfl,fun v b1 h1=>Br.of (fun _=>⟨b1,all,rfl,fun u b2 h2=> ?_⟩) fun c=>absurd c (by simp;omega)⟩) fun c=>absurd c (by simp;omega)
 rw [h2.1,h2.2,h1.1,h1.2];exact hK
noncomputable def o3 :bU Tryz.prog:=((o2).add 77 dNs aCU).add 40 dPl aB7
theorem aGt(b:Bk)(all:Int)(K:KC):run o3 3 79 [.agg [.ptr 0 0]] [some (.cells 130 (bkC all b))] K=
 (∃(e400:Bk),∃(e399:Int),∃(e398:Nat),(((bkC all b)=bkC e399 e400/\3=(↑e398:Int))/\aK e400/\cS e399/\0<e398/\e398<=1000)/\(∀(p396:List (List Int)),∀(b'395:Bk),∀(_:uN e399 e400 (⟨#[107,105,110,100]⟩:ByteArray) e398 p396 b'395),Br (true&&decide (0<(↑e398:Int))) (∃(e392:Bk),∃(e391:Int),((bkC e399 b'395)=bkC e391 e392)/\(∀(v389:Int),∀(b'388:Bk),∀(_:OP e392 (bytesOf (p396.getD (Int.toNat 0) [])) v389 b'388),Br (true&&decide (1<(↑e398:Int))) (∃(e385:Bk),∃(e384:Int),((bkC e391 b'388)=bkC e384 e385)/\(∀(v382:Int),∀(b'381:Bk),∀(_:OP e385 (bytesOf (p396.getD (Int.toNat 1) [])) v382 b'381),Br (true&&decide (2<(↑e398:Int))) (∃(e378:Bk),∃(e377:Int),((bkC e384 b'381)=bkC e377 e378)/\(∀(v375:Int),∀(b'374:Bk),∀(_:aDW e378 (bytesOf (p396.getD (Int.toNat 2) [])) (⟨#[111,110]⟩:ByteArray) (⟨#[111,102,102]⟩:ByteArray) v375 b'374),K (SV.agg [SV.int .i64 v389,SV.int .i64 v382,SV.bool (v375==1)]) [some (SB.cells 130 (bkC e377 b'374))] [0])) (False))) (False))) (False))):=by kernel_rfl
theorem aGj(b:Bk)(all:Int)(K:KC):run o3 3 34 [.agg [.ptr 0 0]] [some (.cells 130 (bkC all b))] K=
 (∃(e400:Bk),∃(e399:Int),∃(e398:Nat),(((bkC all b)=bkC e399 e400/\2=(↑e398:Int))/\aK e400/\cS e399/\0<e398/\e398<=1000)/\(∀(p396:List (List Int)),∀(b'395:Bk),∀(_:uN e399 e400 (⟨#[112,111,105,110,116]⟩:ByteArray) e398 p396 b'395),∃(e393:List (List Int)),∃(e392:Bk),∃(e391:Int),((bkC e399 b'395)=bkC e391 e392/\aH p396=aH e393/\2<=e398)/\(∀(x389:Int),∀(y388:Int),∀(b'387:Bk),∀(_:J7 e392 e393 x389 y388 b'387),K (SV.agg [SV.int .i64 x389,SV.int .i64 y388]) [some (SB.cells 130 (bkC e391 b'387))] [0]))):=by kernel_rfl
theorem aF5(b:Bk)(all:Int)(K:KC):run o3 3 38 [.agg [.ptr 0 0]] [some (.cells 130 (bkC all b))] K=
 (∃(e400:Bk),∃(e399:Int),∃(e398:Nat),(((bkC all b)=bkC e399 e400/\5=(↑e398:Int))/\aK e400/\cS e399/\0<e398/\e398<=1000)/\(∀(p396:List (List Int)),∀(b'395:Bk),∀(_:uN e399 e400 (⟨#[103,97,116,101]⟩:ByteArray) e398 p396 b'395),∃(e393:List (List Int)),∃(e392:Bk),∃(e391:Int),((bkC e399 b'395)=bkC e391 e392/\aH p396=aH e393/\2<=e398)/\(∀(x389:Int),∀(y388:Int),∀(b'387:Bk),∀(_:J7 e392 e393 x389 y388 b'387),Br (true&&(decide (2<=(↑e398:Int))&&decide ((↑e398:Int)<=(↑e398:Int)))) (∃(e384:List (List Int)),∃(e383:Bk),∃(e382:Int),((bkC e391 b'387)=bkC e382 e383/\(fun (i:Nat)=>aH p396 (i+2))=aH e384/\2<=(↑e398:Int).toNat - 2)/\(∀(x380:Int),∀(y379:Int),∀(b'378:Bk),∀(_:J7 e383 e384 x380 y379 b'378),Br (true&&decide (4<(↑e398:Int))) (∃(e375:Bk),∃(e374:Int),((bkC e382 b'378)=bkC e374 e375)/\(∀(v372:Int),∀(b'371:Bk),∀(_:aDW e375 (bytesOf (p396.getD (Int.toNat 4) [])) (⟨#[112,108,97,105,110]⟩:ByteArray) (⟨#[115,112,108,105,116]⟩:ByteArray) v372 b'371),K (SV.agg [SV.int .i64 x389,SV.int .i64 y388,SV.int .i64 x380,SV.int .i64 y379,SV.bool (v372==1)]) [some (SB.cells 130 (bkC e374 b'371))] [0])) (False))) (False)))):=by kernel_rfl
def zO{α:Type}(V:α->SV)(O:Int->Bk->α->Bk->Prop):List SV->List (Option SB)->KC->Prop
 | [.agg [.ptr 0 0]],[some (.cells 130 cs)],K=> ∃(b:Bk) (all:Int),(cs=bkC all b/\aK b/\cS all)/\ ∀(x:α) (b':Bk),O all b x b'->K (V x) [some (.cells 130 (bkC all b'))] [0]
 |_,_,_=>False
theorem rX {α:Type} {V:α->SV} {O:Int->Bk->α->Bk->Prop} {k:FuncId} {F:Int->Bk->α×Bk} (hO: ∀all b,O all b (F all b).1 (F all b).2) (h: ∀b all,aK b->cS all->aD Tryz.prog k [.agg [.ptr 0 0]] [some (.cells 130 (bkC all b))] (V (F all b).1) [some (.cells 130 (bkC all (F all b).2))] [0])
  (xs:List SV) (σ:List (Option SB)):Sat Tryz.prog k xs σ (zO V O xs σ):=by
 intro K hK
 unfold zO at hK
 split at hK
 case h_2=>exact hK.elim
 obtain ⟨b,all,⟨rfl,hb,ha⟩,hK⟩:=hK
 exact ⟨_,_,_,hK _ _ (hO all b),h b all hb ha⟩
def kdV(x:Int×Int×Bool):SV:= .agg [.int .i64 x.1,.int .i64 x.2.1,.bool x.2.2]
def ptV(x:Int×Int):SV:= .agg [.int .i64 x.1,.int .i64 x.2]
def gtV(x:Int×Int×Int×Int×Bool):SV:= .agg [.int .i64 x.1,.int .i64 x.2.1,.int .i64 x.2.2.1,.int .i64 x.2.2.2.1,.bool x.2.2.2.2]
theorem aF1(b:Bk)(all:Int)(hb:aK b)(ha:cS all):aD Tryz.prog 79 [.agg [.ptr 0 0]] [some (.cells 130 (bkC all b))] (kdV (gQ all b).1) [some (.cells 130 (bkC all (gQ all b).2))] [0]:=
 aW o3 3 fun _ _ K hK=>by
  rw [aGt]
  refine ⟨b,all,3,⟨⟨rfl,rfl⟩,hb,ha,by decide,by decide⟩,fun p b1 h1=>⟨b1,all,rfl,fun v2 b2 h2=>⟨b2,all,rfl,fun v3 b3 h3=>⟨b3,all,rfl,fun v4 b4 h4=> ?_⟩⟩⟩⟩
  obtain ⟨⟨rfl,_⟩,rfl⟩:=h1
  obtain ⟨rfl,rfl⟩:=h2
  obtain ⟨rfl,rfl⟩:=h3
  obtain ⟨rfl,rfl⟩:=h4
  exact hK
theorem aF8(b:Bk)(all:Int)(hb:aK b)(ha:cS all):aD Tryz.prog 34 [.agg [.ptr 0 0]] [some (.cells 130 (bkC all b))] (ptV (eQ all b).1) [some (.cells 130 (bkC all (eQ all b).2))] [0]:=
 aW o3 3 fun _ _ K hK=>by
  rw [aGj]
  refine ⟨b,all,2,⟨⟨rfl,rfl⟩,hb,ha,by decide,by decide⟩,fun p b1 h1=>⟨p,b1,all,⟨rfl,rfl,by decide⟩,fun x y b2 h2=> ?_⟩⟩
  obtain ⟨⟨rfl,_⟩,rfl⟩:=h1
  obtain ⟨h2,rfl⟩:=h2
  cases h2
  exact hK
theorem aGw(b:Bk)(all:Int)(hb:aK b)(ha:cS all):aD Tryz.prog 38 [.agg [.ptr 0 0]] [some (.cells 130 (bkC all b))] (gtV (iT all b).1) [some (.cells 130 (bkC all (iT all b).2))] [0]:=
 aW o3 3 fun _ _ K hK=>by
  rw [aF5]
  refine ⟨b,all,5,⟨⟨rfl,rfl⟩,hb,ha,by decide,by decide⟩,fun p b1 h1=>⟨p,b1,all,⟨rfl,rfl,by decide⟩,fun x y b2 h2=>⟨p.drop 2,b2,all,⟨rfl,uR p 2,by decide⟩,fun z u b3 h3=>⟨b3,all,rfl,fun v b4 h4=> ?_⟩⟩⟩⟩
  obtain ⟨⟨rfl,_⟩,rfl⟩:=h1
  obtain ⟨h2,rfl⟩:=h2
  obtain ⟨h3,rfl⟩:=h3
  obtain ⟨rfl,rfl⟩:=h4
  rw [DI] at h3|-
  cases h2;cases h3
  exact hK
theorem aCd(xs:List SV)(σ:List (Option SB)):Sat Tryz.prog 79 xs σ (zO kdV (isF gQ) xs σ):=rX (F:=gQ) (fun _ _=>rfl) aF1 xs σ
theorem aCz(xs:List SV)(σ:List (Option SB)):Sat Tryz.prog 34 xs σ (zO ptV (isF eQ) xs σ):=rX (F:=eQ) (fun _ _=>rfl) aF8 xs σ
theorem aCp(xs:List SV)(σ:List (Option SB)):Sat Tryz.prog 38 xs σ (zO gtV (isF iT) xs σ):=rX (F:=iT) (fun _ _=>rfl) aGw xs σ
def oL :List (Nat×e9):=[(0,⟨[1,3,4,5],[0,1,2],[0,1,2,3,4,5,6,7,8],3,[(4,2)]⟩)]
noncomputable abbrev rY :Env:=gC oL (fun _=>0) o3 2
noncomputable abbrev rR :Func:=Tryz.f36
abbrev sQ :List Nat:=[1,1,1,1,0,1,0]
def zR(V:SV)(all:Int)(b:Bk)(o:SV)(r:Option SB)(i:Int):St:=⟨[(1,.ptr 1 0),(3,V),(4,o),(5,.int .i64 i)],[(0,some (.cells 130 (bkC all b))),(1,some (.cells 71 [.ptr 0 0])),(2,r)],3,[0,1,2,3,4,5,6,7,8],31⟩
theorem TT(b:Bk)(all:Int)(K:KC):eL oL (fun _=>0) o3 3 36 [.agg [.ptr 0 0]] [some (.cells 130 (bkC all b))] K=
 (∃(e400:Bk),∃(e399:Int),((bkC all b)=bkC e399 e400/\aK e400/\0<=e399/\e399<=1048577)/\(∀(b'397:Bk),∀(_:isB b'397 (gB e399 e400 (⟨#[114,97,105,108]⟩:ByteArray) 2 128)),Br (fN e400 (⟨#[114,97,105,108]⟩:ByteArray) 2 128) (∃q_,bS rY (aB oL 1) rR sQ 0 1 K q_ {tmps:=[(1,SV.ptr 1 0),(3,SV.nils),(4,SV.nils),(5,SV.int .i64 0)],store:=[(0,some (SB.cells 130 (bkC e399 b'397))),(1,some (SB.cells 71 [SV.ptr 0 0])),(2,none)],nxt:=3,dirty:=[0,1,2,3,4,5,6,7,8],nt:=31}) (∀(p394:List (List Int)),∀(_:isW p394 (gW e400)),Br ((↑p394.length:Int).tmod 2==1) (∃(e391:Bk),∃(e390:Int),((bkC e399 b'397)=bkC e390 e391)/\(∀(b'388:Bk),∀(_:isB b'388 (wS e391)),K SV.nils [some (SB.cells 130 (bkC e390 b'388))] [0])) (∃q_,bS rY (aB oL 1) rR sQ 0 1 K q_ {tmps:=[(1,SV.ptr 1 0),(3,SV.ro p394.length 1 (aH p394)),(4,SV.nils),(5,SV.int .i64 0)],store:=[(0,some (SB.cells 130 (bkC e399 b'397))),(1,some (SB.cells 71 [SV.ptr 0 0])),(2,none)],nxt:=3,dirty:=[0,1,2,3,4,5,6,7,8],nt:=31})))):=by kernel_rfl
theorem aFG(b:Bk)(all:Int)(K:Ex->St->Prop):aF rY (aB oL 1) rR sQ 0 K (zR .nils all b .nils none 0)=
 (K (Ex.exit 0) {tmps:=[(1,SV.ptr 1 0),(3,SV.nils),(4,SV.nils),(5,SV.int .i64 0)],store:=[(0,some (SB.cells 130 (bkC all b))),(1,some (SB.cells 71 [SV.ptr 0 0])),(2,none)],nxt:=3,dirty:=[0,1,2,3,4,5,6,7,8],nt:=31}):=by kernel_rfl
theorem aFe(b:Bk)(all:Int)(K:KC):aE rY (aB oL 1) rR sQ 1 K (.exit 0) (zR .nils all b .nils none 0)=
 (K SV.nils [some (SB.cells 130 (bkC all b))] [0]):=by kernel_rfl
theorem Y3(n:Nat)(p:List (List Int))(b:Bk)(all:Int)(i:Nat)(K:Ex->St->Prop):aF rY (aB oL 1) rR sQ 0 K (zR (.ro n 1 (aH p)) all b .nils none i)=
 (Br (decide ((↑i:Int)<(↑n:Int))) (Br (decide (0<=(↑i:Int))&&(decide ((↑i:Int)<=(↑n:Int))&&decide ((↑n:Int)<=(↑n:Int)))) (∃(e398:List (List Int)),∃(e397:Bk),∃(e396:Int),((bkC all b)=bkC e396 e397/\(fun (i_1:Nat)=>aH p (i_1+(↑i:Int).toNat))=aH e398/\2<=(↑n:Int).toNat - (↑i:Int).toNat)/\(∀(x394:Int),∀(y393:Int),∀(b'392:Bk),∀(_:J7 e397 e398 x394 y393 b'392),K Ex.normal {tmps:=[(1,SV.ptr 1 0),(3,SV.ro n 1 (aH p)),(4,SV.own 2 0 2 1),(5,SV.int .i64 (IntKind.i64.wrap ((↑i:Int)+2)))],store:=[(0,some (SB.cells 130 (bkC e396 b'392))),(1,some (SB.cells 71 [SV.ptr 0 0])),(2,some (SB.row 24 2 1 fun (i:Nat)=>cut [SV.int .i64 x394,SV.int .i64 y393] (i*2) 2))],nxt:=3,dirty:=[0,1,2,3,4,5,6,7,8],nt:=31})) (False)) (K (Ex.exit 0) {tmps:=[(1,SV.ptr 1 0),(3,SV.ro n 1 (aH p)),(4,SV.nils),(5,SV.int .i64 (↑i:Int))],store:=[(0,some (SB.cells 130 (bkC all b))),(1,some (SB.cells 71 [SV.ptr 0 0])),(2,none)],nxt:=3,dirty:=[0,1,2,3,4,5,6,7,8],nt:=31})):=by kernel_rfl
theorem WL(n:Nat)(p:List (List Int))(b:Bk)(all:Int)(m:Nat)(g:Nat->List SV)(i:Nat)(K:Ex->St->Prop):aF rY (aB oL 1) rR sQ 0 K (zR (.ro n 1 (aH p)) all b (.own 2 0 2 m) (some (.row 24 2 m g)) i)=
 (Br (decide ((↑i:Int)<(↑n:Int))) (Br (decide (0<=(↑i:Int))&&(decide ((↑i:Int)<=(↑n:Int))&&decide ((↑n:Int)<=(↑n:Int)))) (∃(e398:List (List Int)),∃(e397:Bk),∃(e396:Int),((bkC all b)=bkC e396 e397/\(fun (i_1:Nat)=>aH p (i_1+(↑i:Int).toNat))=aH e398/\2<=(↑n:Int).toNat - (↑i:Int).toNat)/\(∀(x394:Int),∀(y393:Int),∀(b'392:Bk),∀(_:J7 e397 e398 x394 y393 b'392),Br (decide ((m+1)*16<=1099511627776)&&decide (m+1<9223372036854775808)&&decide (m=m)) (K Ex.normal {tmps:=[(1,SV.ptr 1 0),(3,SV.ro n 1 (aH p)),(4,SV.own 2 0 2 (m+1)),(5,SV.int .i64 (IntKind.i64.wrap ((↑i:Int)+2)))],store:=[(0,some (SB.cells 130 (bkC e396 b'392))),(1,some (SB.cells 71 [SV.ptr 0 0])),(2,some (SB.row 24 2 (m+1) (bJ m [SV.int .i64 x394,SV.int .i64 y393] g)))],nxt:=3,dirty:=[0,1,2,3,4,5,6,7,8],nt:=31}) (False))) (False)) (K (Ex.exit 0) {tmps:=[(1,SV.ptr 1 0),(3,SV.ro n 1 (aH p)),(4,SV.own 2 0 2 m),(5,SV.int .i64 (↑i:Int))],store:=[(0,some (SB.cells 130 (bkC all b))),(1,some (SB.cells 71 [SV.ptr 0 0])),(2,some (SB.row 24 2 m g))],nxt:=3,dirty:=[0,1,2,3,4,5,6,7,8],nt:=31})):=by kernel_rfl
theorem aFg(n:Nat)(p:List (List Int))(b:Bk)(all:Int)(i:Nat)(K:KC):aE rY (aB oL 1) rR sQ 1 K (.exit 0) (zR (.ro n 1 (aH p)) all b .nils none i)=
 (K SV.nils [some (SB.cells 130 (bkC all b))] [0]):=by kernel_rfl
theorem aDY(n:Nat)(p:List (List Int))(b:Bk)(all:Int)(m:Nat)(g:Nat->List SV)(i:Nat)(K:KC):aE rY (aB oL 1) rR sQ 1 K (.exit 0) (zR (.ro n 1 (aH p)) all b (.own 2 0 2 m) (some (.row 24 2 m g)) i)=
 (K (SV.own 1 0 2 m) [some (SB.cells 130 (bkC all b)),some (SB.row 24 2 m g)] [0]):=by kernel_rfl
theorem aC5(b0:Bk)(all:Int)(hb:aK b0)(ha:cS all)(K:KC)(hK:nE 24 2 plL (eD all b0).1 (.cells 130 (bkC all (eD all b0).2)) K):
  eL oL (fun _=>0) o3 3 36 [.agg [.ptr 0 0]] [some (.cells 130 (bkC all b0))] K:=by
 rw [TT]
 refine ⟨b0,all,⟨rfl,hb,ha⟩,fun b1 h1=> ?_⟩
 rw [show b1=gB all b0 (ba dU) 2 128 from h1]
 clear h1
 have e:(⟨#[114,97,105,108]⟩:ByteArray)=ba dU:=rfl
 rw [e]
 unfold eD at hK
 refine Br.of (fun c=> ?_) fun c p hp=> ?_
 ·simp only [c,cond_true,List.length_nil,Nat.zero_mod] at hK
  have hK:K .nils [some (.cells 130 (bkC all (gB all b0 (ba dU) 2 128)))] [0]:=hK.1 rfl
  refine ⟨1, ?_⟩
  show aF rY (aB oL 1) rR sQ 0 (fQ (iter (aF rY (aB oL 1) rR sQ 0) (aE rY (aB oL 1) rR sQ 1 K) 0) (aE rY (aB oL 1) rR sQ 1 K)) (zR .nils all (gB all b0 (ba dU) 2 128) .nils none 0)
  rw [aFG]
  show aE rY (aB oL 1) rR sQ 1 K (.exit 0) (zR .nils all (gB all b0 (ba dU) 2 128) .nils none 0)
  rw [aFe];exact hK
 ·obtain rfl:p=gW b0:=hp
  simp only [c,cond_false] at hK
  have hrg:=EY hb c
  generalize gW b0=p at*
  generalize gB all b0 (ba dU) 2 128=b at*
  have hmod:((p.length:Int).tmod 2==1)=(p.length%2==1):=by
   rw [show (p.length:Int).tmod 2=((p.length%2:Nat):Int) from by rw [Int.tmod_eq_emod_of_nonneg (by omega)];omega]
   rw [Bool.eq_iff_iff,beq_iff_eq,beq_iff_eq];omega
  rw [hmod]
  refine Br.of (fun c2=> ?_) fun c2=> ?_
  ·rw [c2] at hK
   exact ⟨b,all,rfl,fun b' h'=>by rw [show b'=wS b from h'];exact hK.1 rfl⟩
  ·rw [c2] at hK
   simp only [cond_false] at hK
   have hev:p.length%2=0:=by
    have:p.length%2≠1:=fun e=>by rw [e] at c2;cases c2
    omega
   refine ⟨p.length/2+1, ?_⟩
   show iter (aF rY (aB oL 1) rR sQ 0) (aE rY (aB oL 1) rR sQ 1 K) (p.length/2+1) (zR (.ro p.length 1 (aH p)) all (mY b p 0).2 .nils none ((2*0:Nat):Int))
   refine TQ (e:=24) (st:=2) (id:=2) (f:=plL) (fun i=>(mY b p i).1) (fun o r i=>zR (.ro p.length 1 (aH p)) all (mY b p i).2 o r ((2*i:Nat):Int)) (p.length/2) rfl (fun i o r hi ht X hX=> ?_) fun o r ht X=> ?_
   ·have hl:=BH b p i
    have hi2:2*i<p.length:=by omega
    have hw:IntKind.i64.wrap (((2*i:Nat):Int)+2)=((2*(i+1):Nat):Int):=by rw [g7];omega
    rcases ht with ⟨h0,rfl,rfl⟩|⟨g,hne,rfl,rfl,hg⟩
    ·rw [Y3,hw]
     refine Br.of (fun _=>Br.of (fun _=>⟨p.drop (2*i),_,all,⟨rfl,by rw [Int.toNat_natCast];exact uR p _,by rw [Int.toNat_natCast,Int.toNat_natCast];omega⟩,fun x y b' hv=> ?_⟩) fun c=>absurd c (by simp;omega)) fun c=>nZ hi2 c
     obtain ⟨h1,rfl⟩:=hv
     rw [DI] at h1|-
     refine hX _ _ ?_
     show bZ _ 2 2 plL ((mY b p i).1++[(plP (mY b p i).2 p (2*i)).1]) _ _
     rw [h0,<- h1]
     exact eU rfl rfl
    ·rw [WL,hw]
     refine Br.of (fun _=>Br.of (fun _=>⟨p.drop (2*i),_,all,⟨rfl,by rw [Int.toNat_natCast];exact uR p _,by rw [Int.toNat_natCast,Int.toNat_natCast];omega⟩,fun x y b' hv=>Br.of (fun _=> ?_) fun c=>absurd c (by simp;omega)⟩) fun c=>absurd c (by simp;omega)) fun c=>nZ hi2 c
     obtain ⟨h1,rfl⟩:=hv
     rw [DI] at h1|-
     refine hX _ _ ?_
     show bZ _ 2 2 plL ((mY b p i).1++[(plP (mY b p i).2 p (2*i)).1]) _ _
     rw [<- h1]
     exact fR rfl rfl hg
   ·have he:2*(p.length/2)=p.length:=by omega
    rw [he]
    refine pH ht hK (fun h1 h2 hK=> ?_) fun m g h1 h2 hK=> ?_
    ·subst h1;subst h2
     rw [Y3]
     refine Br.of (fun c=>mZ c) fun _=> ?_
     show aE rY (aB oL 1) rR sQ 1 K (.exit 0) (zR (.ro p.length 1 (aH p)) all (mY b p (p.length/2)).2 .nils none (p.length:Nat))
     rw [aFg];exact hK
    ·subst h1;subst h2
     rw [WL]
     refine Br.of (fun c=>mZ c) fun _=> ?_
     show aE rY (aB oL 1) rR sQ 1 K (.exit 0) (zR (.ro p.length 1 (aH p)) all (mY b p (p.length/2)).2 (.own 2 0 2 m) (some (.row 24 2 m g)) (p.length:Nat))
     rw [aDY];exact hK
end Go.Proofs.YtghnfjfkjhbgdaaGreatDoor
namespace Go.Proofs.YtghnfjfkjhbgdaaGreatDoor
open Go.Se
set_option maxRecDepth 100000
def rlV(x:List (Int×Int)):SV:= .ro x.length 2 (aY plL (0,0) x)
theorem yB(b:Bk)(all:Int):ids.idsL (bkC all b)=[]:=rfl
theorem aEA(b:Bk)(all:Int)(hb:aK b)(ha:cS all):aD Tryz.prog 36 [.agg [.ptr 0 0]] [some (.cells 130 (bkC all b))] (rlV (eD all b).1) [some (.cells 130 (bkC all (eD all b).2))] [0]:=
 jY (yB _ _) (fun _=>rfl) fun K hK=>cA (env:=tab.env o3 (fun _=>0) (fun _=>false)) ⟨tab.htt,o3.ok⟩ tab.mixed (fun n=>bF n oL) tab.hft 3 _ _ _ K (aC5 b all hb ha K hK)
theorem aBH(xs:List SV)(σ:List (Option SB)):Sat Tryz.prog 36 xs σ (zO rlV (isF eD) xs σ):=rX (F:=eD) (fun _ _=>rfl) aEA xs σ
noncomputable def o4 :bU Tryz.prog:=((((o3).add 79 (zO kdV (isF gQ)) aCd).add 34 (zO ptV (isF eQ)) aCz).add 38 (zO gtV (isF iT)) aCp).add 36 (zO rlV (isF eD)) aBH
def myR :List (Nat×e9):=[(0,⟨[1,2,3,4,9],[0,1,2],[0,1,2,3,4,5,6,7,8],3,[(9,2)]⟩)]
noncomputable abbrev myE :Env:=gC myR (fun _=>0) o4 2
abbrev myP :List Nat:=[1,1,0,0]
def myS(f:FuncId)(w:ByteArray)(most:Nat)(all:Int)(b:Bk)(o:SV)(r:Option SB):St:=⟨[(1,.str w),(2,.int .i64 most),(3,.fn (.func f) [.agg [.ptr 0 0]] []),(4,.ptr 1 0),(9,o)],[(0,some (.cells 130 (bkC all b))),(1,some (.cells 71 [.ptr 0 0])),(2,r)],3,[0,1,2,3,4,5,6,7,8],26⟩
def dMy{α:Type}(f:FuncId)(st:Nat)(R:α->List SV)(d0:α)(F:Int->Bk->α×Bk):List SV->List (Option SB)->KC->Prop
 | [.agg [.ptr 0 0],.str w,.int .i64 most,.fn (.func f') [.agg [.ptr 0 0]] []],[some (.cells 130 cs)],K=> ∃(b:Bk) (all:Int) (m:Nat),((cs=bkC all b/\most=(m:Int)/\f'=f)/\aK b/\cS all/\m<=1000)/\ ∀(L:List α) (b':Bk),PR w (F all) m b L b'->K (.ro L.length st (aY R d0 L)) [some (.cells 130 (bkC all b'))] [0]
 |_,_,_=>False
theorem zZ {α:Type} {f:FuncId} {st:Nat} {R:α->List SV} {d0:α} {F:Int->Bk->α×Bk} {k:FuncId} (h: ∀w m b all,aK b->cS all->m<=1000->aD Tryz.prog k [.agg [.ptr 0 0],.str w,.int .i64 (m:Nat),.fn (.func f) [.agg [.ptr 0 0]] []] [some (.cells 130 (bkC all b))] (.ro (cJ w (F all) m ([],b)).1.length st (aY R d0 (cJ w (F all) m ([],b)).1)) [some (.cells 130 (bkC all (cJ w (F all) m ([],b)).2))] [0])
  (xs:List SV) (σ:List (Option SB)):Sat Tryz.prog k xs σ (dMy f st R d0 F xs σ):=by
 intro K hK
 unfold dMy at hK
 split at hK
 case h_2=>exact hK.elim
 obtain ⟨b,all,m,⟨⟨rfl,rfl,rfl⟩,hb,ha,hm⟩,hK⟩:=hK
 exact ⟨_,_,_,hK _ _ rfl,h _ m b all hb ha hm⟩
noncomputable abbrev O5 :Func:=Tryz.f78
abbrev xR(w:ByteArray)(most:Nat)(all:Int)(b:Bk)(o:SV)(r:Option SB):St:=myS 79 w most all b o r
theorem V3(w:ByteArray)(most:Nat)(all:Int)(b:Bk)(K:KC):eL myR (fun _=>0) o4 3 78 [.agg [.ptr 0 0],.str w,.int .i64 (most:Nat),.fn (.func 79) [.agg [.ptr 0 0]] []] [some (.cells 130 (bkC all b))] K=
 (∃q_,bS myE (aB myR 1) O5 myP 0 1 K q_ (xR w most all b (SV.nils) (none))):=by kernel_rfl
theorem aE1(w:ByteArray)(most:Nat)(all:Int)(b:Bk)(K:Ex->St->Prop):aF myE (aB myR 1) O5 myP 0 K (xR w most all b .nils none)=
 (Br (decide (0<(↑most:Int))) (∃(e399:Bk),∃(e398:Int),((bkC all b)=bkC e398 e399/\aK e399)/\(Br (eY e399 w) (∃(e395:Bk),∃(e394:Int),((bkC e398 e399)=bkC e394 e395/\aK e395/\cS e394)/\(∀(x392:Int×Int×Bool),∀(b'391:Bk),∀(_:isF gQ e394 e395 x392 b'391),K Ex.normal (xR w most e394 b'391 (SV.own 2 0 3 1) (some (SB.row 107 3 1 fun (i:Nat)=>cut [SV.int .i64 x392.fst,SV.int .i64 x392.snd.fst,SV.bool x392.snd.snd] (i*3) 3))))) (K (Ex.exit 0) (xR w most e398 e399 (SV.nils) (none))))) (K (Ex.exit 0) (xR w most all b (SV.nils) (none)))):=by kernel_rfl
theorem aDV(w:ByteArray)(most:Nat)(all:Int)(b:Bk)(n:Nat)(g:Nat->List SV)(K:Ex->St->Prop):aF myE (aB myR 1) O5 myP 0 K (xR w most all b (.own 2 0 3 n) (some (.row 107 3 n g)))=
 (Br (decide ((↑n:Int)<(↑most:Int))) (∃(e399:Bk),∃(e398:Int),((bkC all b)=bkC e398 e399/\aK e399)/\(Br (eY e399 w) (∃(e395:Bk),∃(e394:Int),((bkC e398 e399)=bkC e394 e395/\aK e395/\cS e394)/\(∀(x392:Int×Int×Bool),∀(b'391:Bk),∀(_:isF gQ e394 e395 x392 b'391),Br (decide ((n+1)*24<=1099511627776)&&decide (n+1<9223372036854775808)&&decide (n=n)) (K Ex.normal (xR w most e394 b'391 (SV.own 2 0 3 (n+1)) (some (SB.row 107 3 (n+1) (bJ n [SV.int .i64 x392.fst,SV.int .i64 x392.snd.fst,SV.bool x392.snd.snd] g))))) (False))) (K (Ex.exit 0) (xR w most e398 e399 (SV.own 2 0 3 n) (some (SB.row 107 3 n g)))))) (K (Ex.exit 0) (xR w most all b (SV.own 2 0 3 n) (some (SB.row 107 3 n g))))):=by kernel_rfl
theorem aFF(w:ByteArray)(most:Nat)(all:Int)(b:Bk)(K:KC):aE myE (aB myR 1) O5 myP 1 K (.exit 0) (xR w most all b .nils none)=
 (K SV.nils [some (SB.cells 130 (bkC all b))] [0]):=by kernel_rfl
theorem aEG(w:ByteArray)(most:Nat)(all:Int)(b:Bk)(n:Nat)(g:Nat->List SV)(K:KC):aE myE (aB myR 1) O5 myP 1 K (.exit 0) (xR w most all b (.own 2 0 3 n) (some (.row 107 3 n g)))=
 (K (SV.own 1 0 3 n) [some (SB.cells 130 (bkC all b)),some (SB.row 107 3 n g)] [0]):=by kernel_rfl
noncomputable abbrev NG :Func:=Tryz.f33
abbrev xC(w:ByteArray)(most:Nat)(all:Int)(b:Bk)(o:SV)(r:Option SB):St:=myS 34 w most all b o r
theorem VU(w:ByteArray)(most:Nat)(all:Int)(b:Bk)(K:KC):eL myR (fun _=>0) o4 3 33 [.agg [.ptr 0 0],.str w,.int .i64 (most:Nat),.fn (.func 34) [.agg [.ptr 0 0]] []] [some (.cells 130 (bkC all b))] K=
 (∃q_,bS myE (aB myR 1) NG myP 0 1 K q_ (xC w most all b (SV.nils) (none))):=by kernel_rfl
theorem aDL(w:ByteArray)(most:Nat)(all:Int)(b:Bk)(K:Ex->St->Prop):aF myE (aB myR 1) NG myP 0 K (xC w most all b .nils none)=
 (Br (decide (0<(↑most:Int))) (∃(e399:Bk),∃(e398:Int),((bkC all b)=bkC e398 e399/\aK e399)/\(Br (eY e399 w) (∃(e395:Bk),∃(e394:Int),((bkC e398 e399)=bkC e394 e395/\aK e395/\cS e394)/\(∀(x392:Int×Int),∀(b'391:Bk),∀(_:isF eQ e394 e395 x392 b'391),K Ex.normal (xC w most e394 b'391 (SV.own 2 0 2 1) (some (SB.row 24 2 1 fun (i:Nat)=>cut [SV.int .i64 x392.fst,SV.int .i64 x392.snd] (i*2) 2))))) (K (Ex.exit 0) (xC w most e398 e399 (SV.nils) (none))))) (K (Ex.exit 0) (xC w most all b (SV.nils) (none)))):=by kernel_rfl
theorem aDT(w:ByteArray)(most:Nat)(all:Int)(b:Bk)(n:Nat)(g:Nat->List SV)(K:Ex->St->Prop):aF myE (aB myR 1) NG myP 0 K (xC w most all b (.own 2 0 2 n) (some (.row 24 2 n g)))=
 (Br (decide ((↑n:Int)<(↑most:Int))) (∃(e399:Bk),∃(e398:Int),((bkC all b)=bkC e398 e399/\aK e399)/\(Br (eY e399 w) (∃(e395:Bk),∃(e394:Int),((bkC e398 e399)=bkC e394 e395/\aK e395/\cS e394)/\(∀(x392:Int×Int),∀(b'391:Bk),∀(_:isF eQ e394 e395 x392 b'391),Br (decide ((n+1)*16<=1099511627776)&&decide (n+1<9223372036854775808)&&decide (n=n)) (K Ex.normal (xC w most e394 b'391 (SV.own 2 0 2 (n+1)) (some (SB.row 24 2 (n+1) (bJ n [SV.int .i64 x392.fst,SV.int .i64 x392.snd] g))))) (False))) (K (Ex.exit 0) (xC w most e398 e399 (SV.own 2 0 2 n) (some (SB.row 24 2 n g)))))) (K (Ex.exit 0) (xC w most all b (SV.own 2 0 2 n) (some (SB.row 24 2 n g))))):=by kernel_rfl
theorem aEu(w:ByteArray)(most:Nat)(all:Int)(b:Bk)(K:KC):aE myE (aB myR 1) NG myP 1 K (.exit 0) (xC w most all b .nils none)=
 (K SV.nils [some (SB.cells 130 (bkC all b))] [0]):=by kernel_rfl
theorem aFp(w:ByteArray)(most:Nat)(all:Int)(b:Bk)(n:Nat)(g:Nat->List SV)(K:KC):aE myE (aB myR 1) NG myP 1 K (.exit 0) (xC w most all b (.own 2 0 2 n) (some (.row 24 2 n g)))=
 (K (SV.own 1 0 2 n) [some (SB.cells 130 (bkC all b)),some (SB.row 24 2 n g)] [0]):=by kernel_rfl
noncomputable abbrev NN :Func:=Tryz.f35
abbrev xV(w:ByteArray)(most:Nat)(all:Int)(b:Bk)(o:SV)(r:Option SB):St:=myS 36 w most all b o r
theorem T5(w:ByteArray)(most:Nat)(all:Int)(b:Bk)(K:KC):eL myR (fun _=>0) o4 3 35 [.agg [.ptr 0 0],.str w,.int .i64 (most:Nat),.fn (.func 36) [.agg [.ptr 0 0]] []] [some (.cells 130 (bkC all b))] K=
 (∃q_,bS myE (aB myR 1) NN myP 0 1 K q_ (xV w most all b (SV.nils) (none))):=by kernel_rfl
theorem aE0(w:ByteArray)(most:Nat)(all:Int)(b:Bk)(K:Ex->St->Prop):aF myE (aB myR 1) NN myP 0 K (xV w most all b .nils none)=
 (Br (decide (0<(↑most:Int))) (∃(e399:Bk),∃(e398:Int),((bkC all b)=bkC e398 e399/\aK e399)/\(Br (eY e399 w) (∃(e395:Bk),∃(e394:Int),((bkC e398 e399)=bkC e394 e395/\aK e395/\cS e394)/\(∀(x392:List (Int×Int)),∀(b'391:Bk),∀(_:isF eD e394 e395 x392 b'391),K Ex.normal (xV w most e394 b'391 (SV.own 2 0 1 1) (some (SB.row 28 1 1 fun (i:Nat)=>cut [SV.ro x392.length 2 (aY plL (0,0) x392)] (i*1) 1))))) (K (Ex.exit 0) (xV w most e398 e399 (SV.nils) (none))))) (K (Ex.exit 0) (xV w most all b (SV.nils) (none)))):=by kernel_rfl
theorem aFC(w:ByteArray)(most:Nat)(all:Int)(b:Bk)(n:Nat)(g:Nat->List SV)(K:Ex->St->Prop):aF myE (aB myR 1) NN myP 0 K (xV w most all b (.own 2 0 1 n) (some (.row 28 1 n g)))=
 (Br (decide ((↑n:Int)<(↑most:Int))) (∃(e399:Bk),∃(e398:Int),((bkC all b)=bkC e398 e399/\aK e399)/\(Br (eY e399 w) (∃(e395:Bk),∃(e394:Int),((bkC e398 e399)=bkC e394 e395/\aK e395/\cS e394)/\(∀(x392:List (Int×Int)),∀(b'391:Bk),∀(_:isF eD e394 e395 x392 b'391),Br (decide ((n+1)*24<=1099511627776)&&decide (n+1<9223372036854775808)&&decide (n=n)) (K Ex.normal (xV w most e394 b'391 (SV.own 2 0 1 (n+1)) (some (SB.row 28 1 (n+1) (bJ n [SV.ro x392.length 2 (aY plL (0,0) x392)] g))))) (False))) (K (Ex.exit 0) (xV w most e398 e399 (SV.own 2 0 1 n) (some (SB.row 28 1 n g)))))) (K (Ex.exit 0) (xV w most all b (SV.own 2 0 1 n) (some (SB.row 28 1 n g))))):=by kernel_rfl
theorem aFM(w:ByteArray)(most:Nat)(all:Int)(b:Bk)(K:KC):aE myE (aB myR 1) NN myP 1 K (.exit 0) (xV w most all b .nils none)=
 (K SV.nils [some (SB.cells 130 (bkC all b))] [0]):=by kernel_rfl
theorem aEi(w:ByteArray)(most:Nat)(all:Int)(b:Bk)(n:Nat)(g:Nat->List SV)(K:KC):aE myE (aB myR 1) NN myP 1 K (.exit 0) (xV w most all b (.own 2 0 1 n) (some (.row 28 1 n g)))=
 (K (SV.own 1 0 1 n) [some (SB.cells 130 (bkC all b)),some (SB.row 28 1 n g)] [0]):=by kernel_rfl
noncomputable abbrev OK :Func:=Tryz.f37
abbrev xE(w:ByteArray)(most:Nat)(all:Int)(b:Bk)(o:SV)(r:Option SB):St:=myS 38 w most all b o r
theorem V5(w:ByteArray)(most:Nat)(all:Int)(b:Bk)(K:KC):eL myR (fun _=>0) o4 3 37 [.agg [.ptr 0 0],.str w,.int .i64 (most:Nat),.fn (.func 38) [.agg [.ptr 0 0]] []] [some (.cells 130 (bkC all b))] K=
 (∃q_,bS myE (aB myR 1) OK myP 0 1 K q_ (xE w most all b (SV.nils) (none))):=by kernel_rfl
theorem aEJ(w:ByteArray)(most:Nat)(all:Int)(b:Bk)(K:Ex->St->Prop):aF myE (aB myR 1) OK myP 0 K (xE w most all b .nils none)=
 (Br (decide (0<(↑most:Int))) (∃(e399:Bk),∃(e398:Int),((bkC all b)=bkC e398 e399/\aK e399)/\(Br (eY e399 w) (∃(e395:Bk),∃(e394:Int),((bkC e398 e399)=bkC e394 e395/\aK e395/\cS e394)/\(∀(x392:Int×Int×Int×Int×Bool),∀(b'391:Bk),∀(_:isF iT e394 e395 x392 b'391),K Ex.normal (xE w most e394 b'391 (SV.own 2 0 5 1) (some (SB.row 57 5 1 fun (i:Nat)=>cut [SV.int .i64 x392.fst,SV.int .i64 x392.snd.fst,SV.int .i64 x392.snd.snd.fst,SV.int .i64 x392.snd.snd.snd.fst,SV.bool x392.snd.snd.snd.snd] (i*5) 5))))) (K (Ex.exit 0) (xE w most e398 e399 (SV.nils) (none))))) (K (Ex.exit 0) (xE w most all b (SV.nils) (none)))):=by kernel_rfl
theorem aEp(w:ByteArray)(most:Nat)(all:Int)(b:Bk)(n:Nat)(g:Nat->List SV)(K:Ex->St->Prop):aF myE (aB myR 1) OK myP 0 K (xE w most all b (.own 2 0 5 n) (some (.row 57 5 n g)))=
 (Br (decide ((↑n:Int)<(↑most:Int))) (∃(e399:Bk),∃(e398:Int),((bkC all b)=bkC e398 e399/\aK e399)/\(Br (eY e399 w) (∃(e395:Bk),∃(e394:Int),((bkC e398 e399)=bkC e394 e395/\aK e395/\cS e394)/\(∀(x392:Int×Int×Int×Int×Bool),∀(b'391:Bk),∀(_:isF iT e394 e395 x392 b'391),Br (decide ((n+1)*40<=1099511627776)&&decide (n+1<9223372036854775808)&&decide (n=n)) (K Ex.normal (xE w most e394 b'391 (SV.own 2 0 5 (n+1)) (some (SB.row 57 5 (n+1) (bJ n [SV.int .i64 x392.fst,SV.int .i64 x392.snd.fst,SV.int .i64 x392.snd.snd.fst,SV.int .i64 x392.snd.snd.snd.fst,SV.bool x392.snd.snd.snd.snd] g))))) (False))) (K (Ex.exit 0) (xE w most e398 e399 (SV.own 2 0 5 n) (some (SB.row 57 5 n g)))))) (K (Ex.exit 0) (xE w most all b (SV.own 2 0 5 n) (some (SB.row 57 5 n g))))):=by kernel_rfl
theorem aD6(w:ByteArray)(most:Nat)(all:Int)(b:Bk)(K:KC):aE myE (aB myR 1) OK myP 1 K (.exit 0) (xE w most all b .nils none)=
 (K SV.nils [some (SB.cells 130 (bkC all b))] [0]):=by kernel_rfl
theorem aDJ(w:ByteArray)(most:Nat)(all:Int)(b:Bk)(n:Nat)(g:Nat->List SV)(K:KC):aE myE (aB myR 1) OK myP 1 K (.exit 0) (xE w most all b (.own 2 0 5 n) (some (.row 57 5 n g)))=
 (K (SV.own 1 0 5 n) [some (SB.cells 130 (bkC all b)),some (SB.row 57 5 n g)] [0]):=by kernel_rfl
theorem aCC(w:ByteArray)(most:Nat)(all:Int)(b0:Bk)(hb:aK b0)(ha:cS all)(hm:most<=1000)(K:KC)(hK:nE 107 3 kiL (cJ w (gQ all) most ([],b0)).1 (.cells 130 (bkC all (cJ w (gQ all) most ([],b0)).2)) K):
  eL myR (fun _=>0) o4 3 78 [.agg [.ptr 0 0],.str w,.int .i64 (most:Nat),.fn (.func 79) [.agg [.ptr 0 0]] []] [some (.cells 130 (bkC all b0))] K:=by
 rw [V3]
 refine ⟨most+1, ?_⟩
 show iter (aF myE (aB myR 1) O5 myP 0) (aE myE (aB myR 1) O5 myP 1 K) (most+1) (xR w most all b0 .nils none)
 refine tV (e:=107) (st:=3) (id:=2) (f:=kiL) (w:=w) (one:=gQ all) (fun o r b=>xR w most all b o r) most b0 hb (fun b h=>LZ h) (fun L b o r hb' hl ht X hgo hex=> ?_) fun o r ht hb' hl=> ?_
 ·rcases ht with ⟨h0,rfl,rfl⟩|⟨g,hne,rfl,rfl,hg⟩
  ·rw [aE1]
   refine Br.of (fun c=>⟨b,all,⟨rfl,hb'⟩,Br.of (fun c2=>⟨b,all,⟨rfl,hb',ha⟩,fun x b' hx=> ?_⟩) fun c2=>hex fun _=>c2⟩) fun c=>hex fun h=>absurd (of_decide_eq_false c) (by simp only [h0,List.length_nil] at h;omega)
   obtain ⟨rfl,rfl⟩:=mQ hx
   exact hgo (by rw [h0];show 0<most;have:=of_decide_eq_true c;omega) c2 _ _ (by rw [h0];exact eU rfl rfl)
  ·rw [aDV]
   refine Br.of (fun c=>⟨b,all,⟨rfl,hb'⟩,Br.of (fun c2=>⟨b,all,⟨rfl,hb',ha⟩,fun x b' hx=>Br.of (fun _=> ?_) fun c=>absurd c (by simp;omega)⟩) fun c2=>hex fun _=>c2⟩) fun c=>hex fun h=>absurd (of_decide_eq_false c) (by omega)
   obtain ⟨rfl,rfl⟩:=mQ hx
   exact hgo (by have:=of_decide_eq_true c;omega) c2 _ _ (fR rfl rfl hg)
 ·refine pH ht hK (fun h1 h2 hK=> ?_) fun m g h1 h2 hK=> ?_
  ·subst h1;subst h2
   rw [aFF];exact hK
  ·subst h1;subst h2
   rw [aEG];exact hK
theorem aCq(xs:List SV)(σ:List (Option SB)):Sat Tryz.prog 78 xs σ (dMy 79 3 kiL (0,0,false) gQ xs σ):=
 zZ (st:=3) (R:=kiL) (d0:=(0,0,false)) (F:=gQ) (fun w m b all hb ha hm=>jY (e:=107) (f:=kiL) (yB _ _) (fun _=>rfl) fun K hK=>cA (env:=tab.env o4 (fun _=>0) (fun _=>false)) ⟨tab.htt,o4.ok⟩ tab.mixed (fun n=>bF n myR) tab.hft 3 _ _ _ K (aCC w m all b hb ha hm K hK)) xs σ
theorem aB0(w:ByteArray)(most:Nat)(all:Int)(b0:Bk)(hb:aK b0)(ha:cS all)(hm:most<=1000)(K:KC)(hK:nE 24 2 plL (cJ w (eQ all) most ([],b0)).1 (.cells 130 (bkC all (cJ w (eQ all) most ([],b0)).2)) K):
  eL myR (fun _=>0) o4 3 33 [.agg [.ptr 0 0],.str w,.int .i64 (most:Nat),.fn (.func 34) [.agg [.ptr 0 0]] []] [some (.cells 130 (bkC all b0))] K:=by
 rw [VU]
 refine ⟨most+1, ?_⟩
 show iter (aF myE (aB myR 1) NG myP 0) (aE myE (aB myR 1) NG myP 1 K) (most+1) (xC w most all b0 .nils none)
 refine tV (e:=24) (st:=2) (id:=2) (f:=plL) (w:=w) (one:=eQ all) (fun o r b=>xC w most all b o r) most b0 hb (fun b h=>xD h) (fun L b o r hb' hl ht X hgo hex=> ?_) fun o r ht hb' hl=> ?_
 ·rcases ht with ⟨h0,rfl,rfl⟩|⟨g,hne,rfl,rfl,hg⟩
  ·rw [aDL]
   refine Br.of (fun c=>⟨b,all,⟨rfl,hb'⟩,Br.of (fun c2=>⟨b,all,⟨rfl,hb',ha⟩,fun x b' hx=> ?_⟩) fun c2=>hex fun _=>c2⟩) fun c=>hex fun h=>absurd (of_decide_eq_false c) (by simp only [h0,List.length_nil] at h;omega)
   obtain ⟨rfl,rfl⟩:=mQ hx
   exact hgo (by rw [h0];show 0<most;have:=of_decide_eq_true c;omega) c2 _ _ (by rw [h0];exact eU rfl rfl)
  ·rw [aDT]
   refine Br.of (fun c=>⟨b,all,⟨rfl,hb'⟩,Br.of (fun c2=>⟨b,all,⟨rfl,hb',ha⟩,fun x b' hx=>Br.of (fun _=> ?_) fun c=>absurd c (by simp;omega)⟩) fun c2=>hex fun _=>c2⟩) fun c=>hex fun h=>absurd (of_decide_eq_false c) (by omega)
   obtain ⟨rfl,rfl⟩:=mQ hx
   exact hgo (by have:=of_decide_eq_true c;omega) c2 _ _ (fR rfl rfl hg)
 ·refine pH ht hK (fun h1 h2 hK=> ?_) fun m g h1 h2 hK=> ?_
  ·subst h1;subst h2
   rw [aEu];exact hK
  ·subst h1;subst h2
   rw [aFp];exact hK
theorem aCP(xs:List SV)(σ:List (Option SB)):Sat Tryz.prog 33 xs σ (dMy 34 2 plL (0,0) eQ xs σ):=
 zZ (st:=2) (R:=plL) (d0:=(0,0)) (F:=eQ) (fun w m b all hb ha hm=>jY (e:=24) (f:=plL) (yB _ _) (fun _=>rfl) fun K hK=>cA (env:=tab.env o4 (fun _=>0) (fun _=>false)) ⟨tab.htt,o4.ok⟩ tab.mixed (fun n=>bF n myR) tab.hft 3 _ _ _ K (aB0 w m all b hb ha hm K hK)) xs σ
theorem aDe(w:ByteArray)(most:Nat)(all:Int)(b0:Bk)(hb:aK b0)(ha:cS all)(hm:most<=1000)(K:KC)(hK:nE 28 1 raL (cJ w (eD all) most ([],b0)).1 (.cells 130 (bkC all (cJ w (eD all) most ([],b0)).2)) K):
  eL myR (fun _=>0) o4 3 35 [.agg [.ptr 0 0],.str w,.int .i64 (most:Nat),.fn (.func 36) [.agg [.ptr 0 0]] []] [some (.cells 130 (bkC all b0))] K:=by
 rw [T5]
 refine ⟨most+1, ?_⟩
 show iter (aF myE (aB myR 1) NN myP 0) (aE myE (aB myR 1) NN myP 1 K) (most+1) (xV w most all b0 .nils none)
 refine tV (e:=28) (st:=1) (id:=2) (f:=raL) (w:=w) (one:=eD all) (fun o r b=>xV w most all b o r) most b0 hb (fun b h=>wM h) (fun L b o r hb' hl ht X hgo hex=> ?_) fun o r ht hb' hl=> ?_
 ·rcases ht with ⟨h0,rfl,rfl⟩|⟨g,hne,rfl,rfl,hg⟩
  ·rw [aE0]
   refine Br.of (fun c=>⟨b,all,⟨rfl,hb'⟩,Br.of (fun c2=>⟨b,all,⟨rfl,hb',ha⟩,fun x b' hx=> ?_⟩) fun c2=>hex fun _=>c2⟩) fun c=>hex fun h=>absurd (of_decide_eq_false c) (by simp only [h0,List.length_nil] at h;omega)
   obtain ⟨rfl,rfl⟩:=mQ hx
   exact hgo (by rw [h0];show 0<most;have:=of_decide_eq_true c;omega) c2 _ _ (by rw [h0];exact eU rfl rfl)
  ·rw [aFC]
   refine Br.of (fun c=>⟨b,all,⟨rfl,hb'⟩,Br.of (fun c2=>⟨b,all,⟨rfl,hb',ha⟩,fun x b' hx=>Br.of (fun _=> ?_) fun c=>absurd c (by simp;omega)⟩) fun c2=>hex fun _=>c2⟩) fun c=>hex fun h=>absurd (of_decide_eq_false c) (by omega)
   obtain ⟨rfl,rfl⟩:=mQ hx
   exact hgo (by have:=of_decide_eq_true c;omega) c2 _ _ (fR rfl rfl hg)
 ·refine pH ht hK (fun h1 h2 hK=> ?_) fun m g h1 h2 hK=> ?_
  ·subst h1;subst h2
   rw [aFM];exact hK
  ·subst h1;subst h2
   rw [aEi];exact hK
theorem aCn(xs:List SV)(σ:List (Option SB)):Sat Tryz.prog 35 xs σ (dMy 36 1 raL [] eD xs σ):=
 zZ (st:=1) (R:=raL) (d0:=[]) (F:=eD) (fun w m b all hb ha hm=>jY (e:=28) (f:=raL) (yB _ _) (fun _=>rfl) fun K hK=>cA (env:=tab.env o4 (fun _=>0) (fun _=>false)) ⟨tab.htt,o4.ok⟩ tab.mixed (fun n=>bF n myR) tab.hft 3 _ _ _ K (aDe w m all b hb ha hm K hK)) xs σ
theorem aBU(w:ByteArray)(most:Nat)(all:Int)(b0:Bk)(hb:aK b0)(ha:cS all)(hm:most<=1000)(K:KC)(hK:nE 57 5 gaL (cJ w (iT all) most ([],b0)).1 (.cells 130 (bkC all (cJ w (iT all) most ([],b0)).2)) K):
  eL myR (fun _=>0) o4 3 37 [.agg [.ptr 0 0],.str w,.int .i64 (most:Nat),.fn (.func 38) [.agg [.ptr 0 0]] []] [some (.cells 130 (bkC all b0))] K:=by
 rw [V5]
 refine ⟨most+1, ?_⟩
 show iter (aF myE (aB myR 1) OK myP 0) (aE myE (aB myR 1) OK myP 1 K) (most+1) (xE w most all b0 .nils none)
 refine tV (e:=57) (st:=5) (id:=2) (f:=gaL) (w:=w) (one:=iT all) (fun o r b=>xE w most all b o r) most b0 hb (fun b h=>JV h) (fun L b o r hb' hl ht X hgo hex=> ?_) fun o r ht hb' hl=> ?_
 ·rcases ht with ⟨h0,rfl,rfl⟩|⟨g,hne,rfl,rfl,hg⟩
  ·rw [aEJ]
   refine Br.of (fun c=>⟨b,all,⟨rfl,hb'⟩,Br.of (fun c2=>⟨b,all,⟨rfl,hb',ha⟩,fun x b' hx=> ?_⟩) fun c2=>hex fun _=>c2⟩) fun c=>hex fun h=>absurd (of_decide_eq_false c) (by simp only [h0,List.length_nil] at h;omega)
   obtain ⟨rfl,rfl⟩:=mQ hx
   exact hgo (by rw [h0];show 0<most;have:=of_decide_eq_true c;omega) c2 _ _ (by rw [h0];exact eU rfl rfl)
  ·rw [aEp]
   refine Br.of (fun c=>⟨b,all,⟨rfl,hb'⟩,Br.of (fun c2=>⟨b,all,⟨rfl,hb',ha⟩,fun x b' hx=>Br.of (fun _=> ?_) fun c=>absurd c (by simp;omega)⟩) fun c2=>hex fun _=>c2⟩) fun c=>hex fun h=>absurd (of_decide_eq_false c) (by omega)
   obtain ⟨rfl,rfl⟩:=mQ hx
   exact hgo (by have:=of_decide_eq_true c;omega) c2 _ _ (fR rfl rfl hg)
 ·refine pH ht hK (fun h1 h2 hK=> ?_) fun m g h1 h2 hK=> ?_
  ·subst h1;subst h2
   rw [aD6];exact hK
  ·subst h1;subst h2
   rw [aDJ];exact hK
theorem aBj(xs:List SV)(σ:List (Option SB)):Sat Tryz.prog 37 xs σ (dMy 38 5 gaL (0,0,0,0,false) iT xs σ):=
 zZ (st:=5) (R:=gaL) (d0:=(0,0,0,0,false)) (F:=iT) (fun w m b all hb ha hm=>jY (e:=57) (f:=gaL) (yB _ _) (fun _=>rfl) fun K hK=>cA (env:=tab.env o4 (fun _=>0) (fun _=>false)) ⟨tab.htt,o4.ok⟩ tab.mixed (fun n=>bF n myR) tab.hft 3 _ _ _ K (aBU w m all b hb ha hm K hK)) xs σ
noncomputable def o5 :bU Tryz.prog:=((((o4).add 78 (dMy 79 3 kiL (0,0,false) gQ) aCq).add 33 (dMy 34 2 plL (0,0) eQ) aCP).add 35 (dMy 36 1 raL [] eD) aCn).add 37 (dMy 38 5 gaL (0,0,0,0,false) iT) aBj
end Go.Proofs.YtghnfjfkjhbgdaaGreatDoor
namespace Go.Proofs.YtghnfjfkjhbgdaaGreatDoor
open Go.RowKit Go.Extern.Stop Go.Stop Go.Extern Go.Se
theorem aES(t:Value)(w:World):
  Calls Tryz.prog 55 #[.nilIface,t] w fun e w'=>e= .returned (.bool false)/\w'=w:=by
 go_enter Tryz.func55,Tryz.ntmps55
 go_wp2
 go_ret
 exact ⟨rfl,rfl⟩
theorem HA(t:Addr)(w:World):(ReflectliteValue.unpack (.iface 96 (.pointer (some t)))).run Tryz.prog w
  = .ok (.agg #[.pointer (some ⟨6,96,none⟩),.pointer (some ⟨w.heap.size,0,none⟩),.int .u64 150]) (w.alloc (.cells #[.pointer (some t)] 96)):=by kernel_rfl
theorem SG(a:Addr)(w:World):(ReflectliteValue.methodAny (ReflectliteValue.valueError "reflectlite.Value.Type" 0) (fun t _ _ _=>ReflectliteType.toType t) #[.agg #[.pointer (some ⟨6,96,none⟩),.pointer (some a),.int .u64 150]]).run Tryz.prog w
  = .ok (.iface 194 (.agg #[.pointer (some ⟨6,96,none⟩)])) w:=by kernel_rfl
theorem EI(h:Value)(w:World):(Go.method 447 194 (.agg #[h]) "Kind").run Tryz.prog w= .ok (261,h) w:=by kernel_rfl
theorem TU(w:World):((ReflectliteType.abiMethod fun t=>(fun a:Nat=>Value.int IntKind.u8 (a:Int))<$>Rtype.kind t) #[.pointer (some ⟨6,96,none⟩)]).run Tryz.prog w= .ok (.int .u8 22) w:=by kernel_rfl
theorem VK(w:World):((ReflectliteType.abiMethod fun t=>(fun a:Nat=>Value.int IntKind.u8 (a:Int))<$>Rtype.kind t) #[.pointer (some ⟨6,91,none⟩)]).run Tryz.prog w= .ok (.int .u8 22) w:=by kernel_rfl
theorem rlm(z:Sem Value)(f:TypeId->Addr->Nat->Nat->Sem Value)(v:Value):
  ReflectliteValue.method z f #[v]=(do match<- ReflectliteValue.parts v with|none=>z|some (t,a,fl)=>f t a fl (fl%32)):=rfl
theorem BM(a:Addr)(w:World):(ReflectliteValue.parts (.agg #[.pointer (some ⟨6,96,none⟩),.pointer (some a),.int .u64 150])).run Tryz.prog w= .ok (some (96,a,150)) w:=by kernel_rfl
theorem OW(a p:Addr)(W:World)(ha:W.cell? a=some (.pointer (some p))):
  (ReflectliteValue.method (ReflectliteValue.valueError "reflectlite.Value.IsNil" 0) ReflectliteValue.isNil #[.agg #[.pointer (some ⟨6,96,none⟩),.pointer (some a),.int .u64 150]]).run Tryz.prog W= .ok (.bool false) W:=by
 rw [rlm]
 simp only [Sem.run_bind,BM,Result.andThen]
 simp [ReflectliteValue.isNil,loadVar,isAgg,underlying,Tryz.underlying96,ha,Result.andThen]
theorem D2(h:Value)(w:World):(Go.method 447 194 (.agg #[h]) "Elem").run Tryz.prog w= .ok (273,.agg #[h]) w:=by kernel_rfl
theorem uA(h:Value)(w:World):(Go.method 447 194 (.agg #[h]) "Implements").run Tryz.prog w= .ok (274,.agg #[h]) w:=by kernel_rfl
theorem rI(h:Value)(w:World):(Go.method 447 194 (.agg #[h]) "AssignableTo").run Tryz.prog w= .ok (271,.agg #[h]) w:=by kernel_rfl
theorem U0(w:World):(ReflectliteType.method ReflectliteType.elem #[.agg #[.pointer (some ⟨6,96,none⟩)]]).run Tryz.prog w= .ok (.iface 194 (.agg #[.pointer (some ⟨6,91,none⟩)])) w:=by kernel_rfl
theorem zN(w:World):(ReflectliteType.relation "Implements" ReflectliteType.implements_ #[.agg #[.pointer (some ⟨6,91,none⟩)],.iface 194 (.agg #[.pointer (some ⟨6,94,none⟩)])]).run Tryz.prog w= .ok (.bool true) w:=by kernel_rfl
theorem LG(v:Value)(w:World):(ReflectliteType.typeOf #[.iface 91 v]).run Tryz.prog w= .ok (.iface 194 (.agg #[.pointer (some ⟨6,91,none⟩)])) w:=by kernel_rfl
theorem zS(w:World):(ReflectliteType.relation "AssignableTo" ReflectliteType.assignableTo #[.agg #[.pointer (some ⟨6,91,none⟩)],.iface 194 (.agg #[.pointer (some ⟨6,91,none⟩)])]).run Tryz.prog w= .ok (.bool true) w:=by kernel_rfl
theorem HV(e:Addr)(w:World):(ReflectliteValue.unpack (.iface 91 (.pointer (some e)))).run Tryz.prog w
  = .ok (.agg #[.pointer (some ⟨6,91,none⟩),.pointer (some ⟨w.heap.size,0,none⟩),.int .u64 150]) (w.alloc (.cells #[.pointer (some e)] 91)):=by kernel_rfl
theorem LS(w:World):(Rtype.elem? 96).run Tryz.prog w= .ok (some 91) w:=by kernel_rfl
theorem aBG(p:Addr)(w:World):(ReflectliteValue.mk 91 p ReflectliteValue.flagAddr).run Tryz.prog w= .ok (.agg #[.pointer (some ⟨6,91,none⟩),.pointer (some p),.int .u64 406]) w:=by kernel_rfl
theorem P0(a p:Addr)(W:World)(ha:W.cell? a=some (.pointer (some p))):
  (ReflectliteValue.method (ReflectliteValue.valueError "reflectlite.Value.Elem" 0) ReflectliteValue.elem #[.agg #[.pointer (some ⟨6,96,none⟩),.pointer (some a),.int .u64 150]]).run Tryz.prog W
   = .ok (.agg #[.pointer (some ⟨6,91,none⟩),.pointer (some p),.int .u64 406]) W:=by
 rw [rlm]
 simp only [Sem.run_bind,BM,Result.andThen]
 simp [ReflectliteValue.elem,loadVar,isAgg,underlying,Tryz.underlying96,ha,Result.andThen,LS,aBG]
theorem rls(v x:Value):ReflectliteValue.set #[v,x]=(do
  let (some (dst,a,fl),some (src,b,_)):=(<- ReflectliteValue.parts v,<- ReflectliteValue.parts x)
   |unsupported (.noEntry "extern/(internal/reflectlite.Value).Set.zeroValue")
  if fl/ReflectliteValue.flagAddr%2==0 then unsupported (.noEntry "extern/(internal/reflectlite.Value).Set.unaddressable")
  let val<- loadVar src b
  if<- Rtype.directlyAssignable dst src then storeVar dst a val
  else if<- Rtype.implements dst src then
   if (<- Rtype.kind src)==20 then
    match val with
    | .nilIface=>unsupported (.noEntry "extern/reflectlite: a nil value of one interface type handed on as a value of another")
    |_=>storeVar dst a val
   else storeVar dst a (.iface src val)
  else panicString ("reflectlite.Set: value of type " ++(<- Rtype.spelt src)++ " is not assignable to type " ++(<- Rtype.spelt dst))
  pure (.tuple #[])):=rfl
theorem I5(a:Addr)(w:World):(ReflectliteValue.parts (.agg #[.pointer (some ⟨6,91,none⟩),.pointer (some a),.int .u64 406])).run Tryz.prog w= .ok (some (91,a,406)) w:=by kernel_rfl
theorem O7(a:Addr)(w:World):(ReflectliteValue.parts (.agg #[.pointer (some ⟨6,91,none⟩),.pointer (some a),.int .u64 150])).run Tryz.prog w= .ok (some (91,a,150)) w:=by kernel_rfl
theorem JU(w:World):(Rtype.directlyAssignable 91 91).run Tryz.prog w= .ok true w:=by kernel_rfl
theorem aAg(ta b e:Addr)(old:Value)(W:World)(hb:W.cell? b=some (.pointer (some e)))(ht:W.cell? ta=some old)(hf:W.frozen? ta=false):
  (ReflectliteValue.set #[.agg #[.pointer (some ⟨6,91,none⟩),.pointer (some ta),.int .u64 406],.agg #[.pointer (some ⟨6,91,none⟩),.pointer (some b),.int .u64 150]]).run Tryz.prog W
   = .ok (.tuple #[]) (W.setCell ta (.pointer (some e))):=by
 rw [rls]
 simp only [Sem.run_bind,I5,O7,Result.andThen]
 simp [ReflectliteValue.flagAddr,loadVar,isAgg,underlying,Tryz.underlying91,hb,Result.andThen,JU,storeVar,Value.cells,storeCells,Addr.add]
 rw [run_store Tryz.prog W ta _ _ (by rfl)]
 simp [ht,hf]
set_option maxRecDepth 1000000 in
set_option maxHeartbeats 4000000 in
theorem aEK(e t:Addr)(old:Value)(w:World)(hg:w.cell? ⟨0,0,none⟩=some (.iface 194 (.agg #[.pointer (some ⟨6,94,none⟩)])))(ht0:w.cell? t=some old)(hf0:w.frozen? t=false):
  Calls Tryz.prog 55 #[.iface 91 (.pointer (some e)),.iface 96 (.pointer (some t))] w fun ev w'=>ev= .returned (.bool true)/\w'=((((w.alloc (.cells #[.pointer (some t)] 96)).alloc (.cells #[.pointer (some ⟨6,96,none⟩),.pointer (some ⟨w.heap.size,0,none⟩),.int .u64 150] 147)).alloc (.cells #[.pointer (some ⟨6,96,none⟩),.pointer (some ⟨w.heap.size,0,none⟩),.int .u64 150] 147)).alloc (.cells #[.pointer (some e)] 91)).setCell t (.pointer (some e)):=by
 have h6:= @run_callFunc_extern Tryz.prog 94 _ (fun args=>ReflectliteValue.unpack (args.getD 0 (.tuple #[]))) Tryz.func94 (by kernel_rfl) (by kernel_rfl) (by kernel_rfl) (by kernel_rfl)
 have h7:= @run_callFunc_extern Tryz.prog 95 _ (ReflectliteValue.methodAny (ReflectliteValue.valueError "reflectlite.Value.Type" 0) (fun t _ _ _=>ReflectliteType.toType t)) Tryz.func95 (by kernel_rfl) (by kernel_rfl) (by kernel_rfl) (by kernel_rfl)
 have h8:= @run_callFunc_extern Tryz.prog 96 _ (ReflectliteValue.method (ReflectliteValue.valueError "reflectlite.Value.IsNil" 0) ReflectliteValue.isNil) Tryz.func96 (by kernel_rfl) (by kernel_rfl) (by kernel_rfl) (by kernel_rfl)
 have h27:= @run_callFunc_extern Tryz.prog 261 _ (ReflectliteType.abiMethod fun t=>do pure (.int .u8 (<- Rtype.kind t))) Tryz.func261 (by kernel_rfl) (by kernel_rfl) (by kernel_rfl) (by kernel_rfl)
 have h37:= @run_callFunc_extern Tryz.prog 273 _ (ReflectliteType.method ReflectliteType.elem) Tryz.func273 (by kernel_rfl) (by kernel_rfl) (by kernel_rfl) (by kernel_rfl)
 have h38:= @run_callFunc_extern Tryz.prog 274 _ (ReflectliteType.relation "Implements" ReflectliteType.implements_) Tryz.func274 (by kernel_rfl) (by kernel_rfl) (by kernel_rfl) (by kernel_rfl)
 have h10:= @run_callFunc_extern Tryz.prog 137 _ ReflectliteType.typeOf Tryz.func137 (by kernel_rfl) (by kernel_rfl) (by kernel_rfl) (by kernel_rfl)
 have h35:= @run_callFunc_extern Tryz.prog 271 _ (ReflectliteType.relation "AssignableTo" ReflectliteType.assignableTo) Tryz.func271 (by kernel_rfl) (by kernel_rfl) (by kernel_rfl) (by kernel_rfl)
 have h11:= @run_callFunc_extern Tryz.prog 138 _ (ReflectliteValue.method (ReflectliteValue.valueError "reflectlite.Value.Elem" 0) ReflectliteValue.elem) Tryz.func138 (by kernel_rfl) (by kernel_rfl) (by kernel_rfl) (by kernel_rfl)
 have h12:= @run_callFunc_extern Tryz.prog 139 _ ReflectliteValue.set Tryz.func139 (by kernel_rfl) (by kernel_rfl) (by kernel_rfl) (by kernel_rfl)
 have tO:=LG
 have mA:=rI
 have a25:=zS
 have v25:=HV
 have f6:=HA
 have f7:=SG
 have mK:=EI
 have mE:=D2
 have mI:=uA
 have k27:=TU
 have k25:=VK
 have e27:=U0
 have i25:=zN
 have n8:=OW ⟨w.heap.size,0,none⟩ t ((w.alloc (.cells #[.pointer (some t)] 96)).alloc (.cells #[.pointer (some ⟨6,96,none⟩),.pointer (some ⟨w.heap.size,0,none⟩),.int .u64 150] 147)) (by simp)
 have hlt:0<w.heap.size:=by
  rcases Nat.eq_zero_or_pos w.heap.size with h0|h
  ·simp [World.cell?,h0] at hg
  ·exact h
 have hg2:((w.alloc (.cells #[.pointer (some t)] 96)).alloc (.cells #[.pointer (some ⟨6,96,none⟩),.pointer (some ⟨w.heap.size,0,none⟩),.int .u64 150] 147)).cell? ⟨0,0,none⟩=some (.iface 194 (.agg #[.pointer (some ⟨6,94,none⟩)])):=by
  rw [World.cell?_alloc_lt _ _ ⟨0,0,none⟩ (by simp),World.cell?_alloc_lt _ _ ⟨0,0,none⟩ hlt];exact hg
 have htl:t.block<w.heap.size:=by
  rcases Nat.lt_or_ge t.block w.heap.size with h|h
  ·exact h
  ·simp [World.cell?,Array.getElem?_eq_none h] at ht0
 have el:=P0 ⟨w.heap.size,0,none⟩ t (((w.alloc (.cells #[.pointer (some t)] 96)).alloc (.cells #[.pointer (some ⟨6,96,none⟩),.pointer (some ⟨w.heap.size,0,none⟩),.int .u64 150] 147)).alloc (.cells #[.pointer (some ⟨6,96,none⟩),.pointer (some ⟨w.heap.size,0,none⟩),.int .u64 150] 147)) (by rw [World.cell?_alloc_lt _ _ ⟨w.heap.size,0,none⟩ (by simp;omega)];simp)
 have st:=aAg t ⟨w.heap.size+1+1+1,0,none⟩ e old ((((w.alloc (.cells #[.pointer (some t)] 96)).alloc (.cells #[.pointer (some ⟨6,96,none⟩),.pointer (some ⟨w.heap.size,0,none⟩),.int .u64 150] 147)).alloc (.cells #[.pointer (some ⟨6,96,none⟩),.pointer (some ⟨w.heap.size,0,none⟩),.int .u64 150] 147)).alloc (.cells #[.pointer (some e)] 91))
  (by rw [World.cell?_alloc_at _ _ _ _ (by simp)];rfl)
  (by rw [World.cell?_alloc_lt _ _ t (by simp;omega),World.cell?_alloc_lt _ _ t (by simp;omega),World.cell?_alloc_lt _ _ t (by simp;omega),World.cell?_alloc_lt _ _ t htl];exact ht0)
  (by rw [World.frozen?_alloc_old _ _ t (by simp;omega),World.frozen?_alloc_old _ _ t (by simp;omega),World.frozen?_alloc_old _ _ t (by simp;omega),World.frozen?_alloc_old _ _ t (Nat.ne_of_lt htl)];exact hf0)
 go_enter Tryz.func55,Tryz.ntmps55
 go_wp2
 refine wp_loop_rounds 1 ?_
 rw [rounds_succ]
 go_wp2
 go_ret
 exact ⟨rfl,rfl⟩
open Go.Se
theorem KT{ρ:aG}{T:Nat->Prop}{w:World}{x y:SV}{vals:Array Value}(h:aP ρ T w [x,y] vals.toList): ∃a b,vals= #[a,b]/\rel ρ T w x a/\rel ρ T w y b:=by
 obtain ⟨a,r,h1,ha,b,r',h2,hb,h3⟩:=h
 have h3':r'=[]:=h3
 subst h3';subst h2
 exact ⟨a,b,by rw [<- Array.toList_inj,h1],ha,hb⟩
theorem XX(sb:SB):aD Tryz.prog 55 [.nilI,.iface 96 (.ptr 0 0)] [some sb] (.bool false) [some sb] []:=by
 intro ρ T w vals h1 h2 h3 h4
 obtain ⟨a,b,rfl,ha,y,rfl,_⟩:=KT h1
 have ha':a= .nilIface:=ha
 subst ha'
 refine .inl ⟨_,Tryz.func55,by kernel_rfl,by kernel_rfl,(aES _ w).mono fun e w' ⟨he,hw⟩=>⟨_,he,ρ,T, ?_⟩⟩
 subst hw
 exact {
  names:=fun _ _ h=>h
  only:=fun p b hp=>(h4 p b hp).1
  len:=Nat.le_refl _
  val:=rfl
  store:=fun p sb hp=>by
   obtain ⟨sb',b,e1,e2,e3,e4⟩:=h2 p (List.getElem?_eq_some_iff.1 hp).1
   rw [hp] at e1
   simp only [Option.some.injEq] at e1
   subst e1
   exact ⟨b,e2,e3,e4⟩
  fresh:=fun p b hp hb=>absurd (h4 p b hb).1 (Nat.not_lt.2 hp)
  inj:=fun p q b hp _ hb _=>absurd (h4 p b hb).1 (Nat.not_lt.2 hp)
  dirty:=fun _ h=>by cases h
  grow:=aX.refl _ _
  tback:=fun _ _ h=>h
  below:=fun p b hp=>(h4 p b hp).2
  tkeep:=fun _ _ h=> .inl h}
theorem K6 :vU Tryz.prog=some (0,.iface 194 (.agg #[.pointer (some ⟨6,94,none⟩)])):=by kernel_rfl
theorem aBc(sb:SB)(et:TypeId)(c:SV):aD Tryz.prog 55 [.iface 91 (.ptr 0 0),.iface 96 (.ptr 1 0)] [some sb,some (.cells et [c])] (.bool true) [some sb,some (.cells et [.ptr 0 0])] [1]:=by
 intro ρ T w vals h1 h2 h3 h4
 obtain ⟨a,b,rfl,⟨y,rfl,b1,r1,rfl⟩,z,rfl,b0,r0,rfl⟩:=KT h1
 obtain ⟨sb0,c0,e1,e2,hT0,hB0⟩:=h2 0 (by simp)
 simp only [List.getElem?_cons_zero,Option.some.injEq] at e1
 subst e1
 rw [r1] at e2;cases e2
 obtain ⟨sb1,c1,e1,e2,hT1,hB1⟩:=h2 1 (by simp)
 simp only [List.getElem?_cons_succ,List.getElem?_cons_zero,Option.some.injEq] at e1
 subst e1
 rw [r0] at e2;cases e2
 obtain ⟨vs,hh,v0,r,hv,_,hr⟩:=hB1
 have hr':r=[]:=hr
 subst hr'
 have hvs:vs= #[v0]:=by apply Array.ext';exact hv
 subst hvs
 have hlt:=(h4 1 b0 r0).2
 have hne:b1≠b0:=fun e=>by have:=h3 0 1 b0 (by rw [r1,e]) r0;cases this
 obtain ⟨_,hg⟩:=h4.inv _ _ K6
 refine .inl ⟨_,Tryz.func55,by kernel_rfl,by kernel_rfl,(aEK ⟨b1,0,none⟩ ⟨b0,0,none⟩ v0 w hg (by rw [dO hh];rfl) (FW hh)).mono fun e w' ⟨he,hw⟩=>⟨_,he,ρ,T, ?_⟩⟩
 generalize hW:(((w.alloc _).alloc _).alloc _).alloc _=w4 at hw
 have hG4:aX (fun _=>False) w w4:=by
  subst hW
  exact (((aX.alloc _ w _).trans (aX.alloc _ _ _) fun _ _ h=>h).trans (aX.alloc _ _ _) fun _ _ h=>h).trans (aX.alloc _ _ _) fun _ _ h=>h
 have hh4:w4.heap[b0]? =some (.cells #[v0] et (0,0)):=by rw [hG4.same b0 hlt fun h=>h];exact hh
 rw [yK hh4] at hw
 have hG5:aX (fun c=>c=b0) w4 w':=by rw [hw];exact aX.put hh4 (by simp) _ rfl
 have hG:aX (fun c=>c=b0) w w':=(hG4.mono fun _ _ h=>h.elim).trans hG5 fun _ _ h=>h
 have hGT:aX T w w':=hG.mono fun c _ hc=>by rw [hc];exact hT1
 exact {
  names:=fun _ _ h=>h
  only:=fun p b hp=>(h4 p b hp).1
  len:=Nat.le_refl _
  val:=rfl
  store:=fun p sb' hp=>by
   match p,hp with
   |0,hp=>
    simp only [List.getElem?_cons_zero,Option.some.injEq] at hp
    subst hp
    exact ⟨b1,r1,hT0,pI (fun _ _ h=>h) (fun _ _ h=>h) hGT (hG.same b1 (h4 0 b1 r1).2 hne) hB0⟩
   |1,hp=>
    simp only [List.getElem?_cons_succ,List.getElem?_cons_zero,Option.some.injEq] at hp
    subst hp
    refine ⟨b0,r0,hT1,_,by rw [hw];exact c8 (Array.getElem?_eq_some_iff.1 hh4).1, ?_⟩
    exact ⟨_,[],rfl,⟨b1,r1,rfl⟩,rfl⟩
   |n+2,hp=>simp at hp
  fresh:=fun p b hp hb=>absurd (h4 p b hb).1 (Nat.not_lt.2 hp)
  inj:=fun p q b hp _ hb _=>absurd (h4 p b hb).1 (Nat.not_lt.2 hp)
  dirty:=fun p hp=>by
   obtain rfl:=List.mem_singleton.1 hp
   show 1<2
   omega
  grow:=hG.mono fun c _ hc=>⟨1,by simp,by rw [hc];exact r0⟩
  tback:=fun _ _ h=>h
  below:=fun p b hp=>Nat.lt_of_lt_of_le (h4 p b hp).2 hG.size
  tkeep:=fun _ _ h=> .inl h}
def cAs :List SV->List (Option SB)->KC->Prop
 | [.nilI,.iface 96 (.ptr 0 0)],[some b],K=>K (.bool false) [some b] []
 | [.iface 91 (.ptr 0 0),.iface 96 (.ptr 1 0)],[some b,some (.cells e [_])],K=>K (.bool true) [some b,some (.cells e [.ptr 0 0])] [1]
 |_,_,_=>False
theorem aAW(xs:List SV)(σ:List (Option SB)):Sat Tryz.prog 55 xs σ (cAs xs σ):=by
 intro K hK
 unfold cAs at hK
 split at hK
 ·exact ⟨_,_,_,hK,XX _⟩
 ·exact ⟨_,_,_,hK,aBc _ _ _⟩
 ·exact hK.elim
end Go.Proofs.YtghnfjfkjhbgdaaGreatDoor
namespace Go.Proofs.YtghnfjfkjhbgdaaGreatDoor
open Go.Se
set_option maxRecDepth 100000
noncomputable def t0 :bU Tryz.prog:=(k8).add 55 cAs aAW
noncomputable abbrev jO(env:Env)(W:Nat->St->Option St)(fn:Func)(path:List Nat)(blk:Nat)(inn:List Nat)(K:Ex->St->Prop):Ex->St->Prop:=
 NL env W blk (qV (HQ fn) (path++[0])) inn (fun e=>wk (W blk) (K e))
end Go.Proofs.YtghnfjfkjhbgdaaGreatDoor
namespace Go.Se
variable {P:Program}
def frz :Nat->List (Option SB)->SV->SV
 |0,_,_=> .junk
 |d+1,σ,v=>match v with
  | .own id 0 st len=>match σ[id]? with
   |some (some (.lst _ cs))=>bif Nat.ble (len*st) cs.length then .ro len st (fun i=>(cut cs (Nat.min i (len - 1)*st) st).map (frz d σ)) else .junk
   |some (some (.row _ st' n g))=>bif Nat.beq st' st&&Nat.ble len n then .ro len st g else .junk
   |_=> .junk
  | .arr id 0 len cap=>match σ[id]? with
   |some (some (.cells _ cs))=>bif Nat.ble len cap then .ro len (cs.length/len) (fun i=>(cut cs (Nat.min i (len - 1)*(cs.length/len)) (cs.length/len)).map (frz d σ)) else .junk
   |_=> .junk
  | .agg cs=> .agg (cs.map (frz d σ))
  | .tup cs=> .tup (cs.map (frz d σ))
  |v=>bif (ids v).isEmpty then v else .junk
section
variable {σ:List (Option SB)} {ρ:aG} {T:Nat->Prop} {w:World} {N:Nat}
theorem N6(hst: ∀p sb,σ[p]? =some (some sb)-> ∃b,ρ p=some b/\eI ρ T w sb b/\N<=b):
  ∀(d:Nat) (v:SV) (x:Value),rel ρ T w v x->rel (fun _=>none) (fun c=>T c/\c<N) w (frz d σ v) x
 |0,_,_,_=>trivial
 |d+1,v,x,h=>by
  have ih:=N6 hst d
  have ihL: ∀(l:List SV) (m:List Value),aP ρ T w l m->aP (fun _=>none) (fun c=>T c/\c<N) w (l.map (frz d σ)) m:=by
   intro l
   induction l with
   |nil=>exact fun m h=>h
   |cons a l ihl=>
    rintro m ⟨y,r,e,h1,h2⟩
    exact ⟨y,r,e,ih a y h1,ihl r h2⟩
  have aF6: ∀v:SV,rel ρ T w v x->rel (fun _=>none) (fun c=>T c/\c<N) w (bif (ids v).isEmpty then v else .junk) x:=by
   intro v h
   cases hi:(ids v).isEmpty with
   |false=>exact trivial
   |true=>exact fZ (fun _ _ h=>h) (fun _ _ h=>h.1) (aX.refl T w) _ _ (C4 (ρ2:=fun _=>none) v x (List.isEmpty_iff.1 hi) h)
  have rowAt: ∀{b st i:Nat} {vs:Array Value} {e:TypeId} {f:Nat×Nat} {cs:List SV},w.heap[b]? =some (.cells vs e f)->aP (fun _=>none) (fun c=>T c/\c<N) w cs ((vs.toList.drop (i*st)).take st)->dW (fun c=>T c/\c<N) w cs b (0+i*st):=by
   intro b st i vs e f cs hb hr
   rw [Nat.zero_add]
   refine dH hr fun j u hj=> ?_
   rw [dO hb]
   rw [List.getElem?_take] at hj
   split at hj
   ·rw [List.getElem?_drop] at hj
    simpa using hj
   ·cases hj
  unfold frz
  split
  ·rename_i id st len
   split
   ·rename_i e cs hs
    cases hc:Nat.ble (len*st) cs.length with
    |false=>exact trivial
    |true=>
     have hc:=Nat.le_of_ble_eq_true hc
     obtain ⟨b,r1,⟨vs,r2,m,r,r3,r4⟩,hN⟩:=hst id _ hs
     obtain ⟨b',c,e1,rfl,e3,e4,_⟩:=h
     rw [r1] at e1;cases e1
     refine ⟨some ⟨b,0*st,none⟩,c,rfl,⟨e3,by omega,fun he=>by cases he⟩,fun hl=>⟨b,0,by rw [Nat.zero_mul],(Array.getElem?_eq_some_iff.1 r2).1,fun ht=>Nat.not_lt.2 hN ht.2,fun i hi=> ?_⟩⟩
     have hmin:Nat.min i (len - 1)=i:=Nat.min_eq_left (by omega)
     simp only [hmin]
     refine rowAt r2 (ihL _ _ ?_)
     have hlm:=bK r4
     have hcut:=iR (i*st) st r4
     have:(vs.toList.drop (i*st)).take st=(m.drop (i*st)).take st:=by
      rw [r3]
      have h1:i*st+st<=len*st:=by
       have:(i+1)*st<=len*st:=Nat.mul_le_mul_right _ hi
       rw [Nat.add_mul,Nat.one_mul] at this;exact this
      rw [List.drop_append_of_le_length (by omega),List.take_append_of_le_length (by rw [List.length_drop];omega)]
     rw [this]
     exact hcut
   ·rename_i e st' n g hs
    cases hc:Nat.beq st' st&&Nat.ble len n with
    |false=>exact trivial
    |true=>
     simp only [Bool.and_eq_true] at hc
     obtain rfl:=Nat.eq_of_beq_eq_true hc.1
     have hc:=Nat.le_of_ble_eq_true hc.2
     obtain ⟨b,r1,⟨vs,r2,r3,r4⟩,hN⟩:=hst id _ hs
     obtain ⟨b',c,e1,rfl,e3,e4,_⟩:=h
     rw [r1] at e1;cases e1
     refine ⟨some ⟨b,0*st',none⟩,c,rfl,⟨e3,by omega,fun he=>by cases he⟩,fun hl=>⟨b,0,by rw [Nat.zero_mul],(Array.getElem?_eq_some_iff.1 r2).1,fun ht=>Nat.not_lt.2 hN ht.2,fun i hi=> ?_⟩⟩
     exact rowAt r2 (aR (T':=fun c=>T c/\c<N) (fun _ _ h=>h) (fun _ _ h=>h.1) (aX.refl T w) _ _ (r4 i (by omega)))
   ·exact trivial
  ·rename_i id len cap
   split
   ·rename_i e cs hs
    cases hc:Nat.ble len cap with
    |false=>exact trivial
    |true=>
     have hc:=Nat.le_of_ble_eq_true hc
     obtain ⟨b,r1,⟨vs,r2,r3⟩,hN⟩:=hst id _ hs
     obtain ⟨⟨b',e1,rfl⟩,e2⟩:=h
     rw [r1] at e1;cases e1
     refine ⟨some ⟨b,0,none⟩,cap,rfl,⟨hc,e2,fun he=>by cases he⟩,fun hl=>⟨b,0,rfl,(Array.getElem?_eq_some_iff.1 r2).1,fun ht=>Nat.not_lt.2 hN ht.2,fun i hi=> ?_⟩⟩
     have hmin:Nat.min i (len - 1)=i:=Nat.min_eq_left (by omega)
     simp only [hmin]
     exact rowAt r2 (ihL _ _ (iR (i*(cs.length/len)) (cs.length/len) r3))
   ·exact trivial
  ·obtain ⟨a,rfl,h1⟩:=h
   exact ⟨a,rfl,ihL _ _ h1⟩
  ·obtain ⟨a,rfl,h1⟩:=h
   exact ⟨a,rfl,ihL _ _ h1⟩
  ·exact aF6 _ h
end
theorem D8{k:FuncId}{xs:List SV}{v:SV}{σ':List (Option SB)}(d:Nat)(h:aD P k xs [] v σ' []):aD P k xs [] (frz d σ' v) [] []:=by
 intro ρ T w vals h1 h2 h3 h4
 refine (h ρ T w vals h1 h2 h3 h4).mono fun x w' ⟨ρ',T',hd⟩=> ?_
 have hρ: ∀p,ρ p=none:=fun p=>by
  cases hp:ρ p with
  |none=>rfl
  |some b=>exact absurd (h4 p b hp).1 (Nat.not_lt_zero _)
 have hfr: ∀p b,ρ' p=some b->w.heap.size<=b:=fun p b hp=>by
  rcases hd.fresh p b (Nat.zero_le _) hp with h|⟨q,hq,_⟩
  ·exact h
  ·cases hq
 exact ⟨fun _=>none,fun c=>T' c/\c<w.heap.size,{
  names:=fun p b hp=>by rw [hρ] at hp;cases hp
  only:=fun p b hp=>by cases hp
  len:=Nat.le_refl _
  val:=N6 (fun p sb hp=>let ⟨b,e1,_,e3⟩:=hd.store p sb hp;⟨b,e1,e3,hfr p b e1⟩) d v x hd.val
  store:=fun p sb hp=>by simp at hp
  fresh:=fun p b _ hp=>by cases hp
  inj:=fun p q b _ _ hp=>by cases hp
  dirty:=fun p hp=>by cases hp
  grow:=hd.grow
  tback:=fun c hc ht=>hd.tback c hc ht.1
  below:=fun p b hp=>by cases hp
  tkeep:=fun c hc ht=>by
   rcases hd.tkeep c hc ht with h|⟨q,hq,_⟩
   ·exact .inl ⟨h,hc⟩
   ·cases hq}⟩
end Go.Se
namespace Go.Se
def le :Nat->Int->List Int
 |0,_=>[]
 |n+1,x=>x%256::le n (x/256)
section
variable {P:Program}
end
end Go.Se
namespace Go.Se
variable {P:Program}
structure Fz where
 t:Nat
 p:List Nat
 k:Option Nat
 df:List SV
def fzN(df:List SV):Nat->List SV:=fun _=>df
def fzG(n len:Nat)(df:List SV)(g:Nat->List SV):Nat->List SV:=fun i=>bif Nat.blt i n then g i else bif Nat.blt i len then [] else df
def QH(s:dB)(df:List SV):SV->Option (SV×Option Nat)
 | .nils=>some (.ro 0 df.length (fzN df),none)
 | .ro n st g=>some (.ro n st g,none)
 | .own b 0 st' len=>match aI s b with
  |some (.row _ st'' n g)=>bif Nat.beq st'' st' then some (.ro len st' (fzG n len df g),some b) else none
  |_=>none
 |_=>none
def HD :List SV->Nat->SV->List SV
 | [],_,_=>[]
 |_::cs,0,v=>v::cs
 |c::cs,k+1,v=>c::HD cs k v
def DY(n0:Nat)(s:dB):Option Nat->Option dB
 |none=>some s
 |some b=>bif Nat.ble n0 b then some ((b,none)::s) else none
def fz1(n0:Nat):Fz->St->Option St
 |⟨t,p,ko,df⟩,s=>match ko with
  |none=>match QH s.store df (get s.tmps t) with
   |some (v,d)=>match DY n0 s.store d with
    |some r=>some ⟨(t,v)::s.tmps,r,s.nxt,s.dirty,s.nt⟩
    |none=>none
   |none=>none
  |some k=>match aCS (E6 s.store (get s.tmps t) p) with
   |some i=>match aI s.store i with
    |some (.cells e cs)=>match QH s.store df (nth cs k) with
     |some (v,d)=>match DY n0 ((i,some (.cells e (HD cs k v)))::s.store) d with
      |some r=>some ⟨s.tmps,r,s.nxt,s.dirty,s.nt⟩
      |none=>none
     |none=>none
    |_=>none
   |none=>none
def fzP(n0:Nat):List Fz->St->Option St
 | [],s=>some s
 |f::r,s=>match fz1 n0 f s with
  |some s=>fzP n0 r s
  |none=>none
theorem zL{ρ:aG}{T T2:Nat->Prop}{w:World}(hm: ∀(a:SV) (x:Value),rel ρ T w a x->rel ρ T2 w a x){v:SV}: ∀(cs:List SV) (k:Nat) (l:List Value),aP ρ T w cs l->(∀x,rel ρ T w (nth cs k) x->rel ρ T2 w v x)->aP ρ T2 w (HD cs k v) l
 | [],_,_,h,_=>h
 |c::cs,0,_,⟨x,r,e,h1,h2⟩,hv=>⟨x,r,e,hv x h1,by
   have: ∀(l:List SV) (m:List Value),aP ρ T w l m->aP ρ T2 w l m:=fun l=>by
    induction l with
    |nil=>exact fun _ h=>h
    |cons a l ih=>rintro m ⟨y,s,e,h1,h2⟩;exact ⟨y,s,e,hm a y h1,ih s h2⟩
   exact this _ _ h2⟩
 |c::cs,k+1,_,⟨x,r,e,h1,h2⟩,hv=>⟨x,r,e,hm c x h1,zL hm cs k r h2 hv⟩
theorem tF(i:Nat)(o:Option SB)(s:dB)(id:Nat):aI ((i,o)::s) id=if id=i then o else aI s id:=by
 simp only [aI]
 by_cases h:id=i
 ·subst h;simp
 ·rw [if_neg h,show Nat.beq i id=false by rw [Bool.eq_false_iff];intro e;exact h (Nat.eq_of_beq_eq_true e).symm];rfl
theorem aBe {B:kM P} {tm:Nat->SV} {s:dB} {A:Nat->Prop} {D:List Nat} {nt:Nat} {a:Act} {w:World} {ρ:aG} {T:Nat->Prop} (h:fU B tm (aI s) A D nt a w ρ T)
  {df:List SV} {u v:SV} {d:Option Nat} (hf:QH s df u=some (v,d)) (hd: ∀b,d=some b->B.n<=b):
  ∃T2:Nat->Prop,(∀c,T2 c->T c)/\(∀x,rel ρ T w u x->rel ρ T2 w v x)/\(∀c,T c->T2 c\/ ∃b,d=some b/\ρ b=some c)/\(∀b,d=some b->(aI s b).isSome/\(∃e st n g,aI s b=some (.row e st n g))/\ ∀c,ρ b=some c-> ¬T2 c):=by
 unfold QH at hf
 split at hf
 ·cases hf
  exact ⟨T,fun _ h=>h,fun x hx=>fY hx,fun c hc=> .inl hc,fun b hb=>by cases hb⟩
 ·cases hf
  exact ⟨T,fun _ h=>h,fun x hx=>hx,fun c hc=> .inl hc,fun b hb=>by cases hb⟩
 ·rename_i b st' len
  split at hf
  ·rename_i e st'' n g hl
   cases hb:Nat.beq st'' st' with
   |false=>rw [hb] at hf;cases hf
   |true=>
    rw [hb] at hf
    obtain rfl:=Nat.eq_of_beq_eq_true hb
    cases hf
    obtain ⟨_,bb,r1,r2,vs,r3,r4,r5⟩:=h.store b _ hl
    refine ⟨fun c=>T c/\c≠bb,fun _ h=>h.1,fun x hx=> ?_,fun c hc=> ?_,fun b' hb'=> ?_⟩
    ·obtain ⟨b1,c,e1,rfl,e3,e4,_⟩:=hx
     rw [r1] at e1;cases e1
     refine ⟨some ⟨bb,0*st'',none⟩,c,rfl,⟨e3,by omega,fun he=>by cases he⟩,fun hlen=>⟨bb,0,by rw [Nat.zero_mul],(Array.getElem?_eq_some_iff.1 r3).1,fun ht=>ht.2 rfl,fun i hi=> ?_⟩⟩
     show dW _ w (bif Nat.blt i n then g i else bif Nat.blt i len then [] else df) bb _
     cases hin:Nat.blt i n with
     |false=>
      rw [show Nat.blt i len=true by simpa using hi]
      exact trivial
     |true=>
      have hin:i<n:=by simpa using hin
      have hr:=aR (T':=fun c=>T c/\c≠bb) (fun _ _ h=>h) (fun _ _ h=>h.1) (aX.refl T w) _ _ (r5 i hin)
      rw [Nat.zero_add]
      refine dH hr fun j u hj=> ?_
      rw [dO r3]
      rw [List.getElem?_take] at hj
      split at hj
      ·rw [List.getElem?_drop] at hj
       simpa using hj
      ·cases hj
    ·by_cases hc2:c=bb
     ·exact .inr ⟨b,rfl,by rw [hc2];exact r1⟩
     ·exact .inl ⟨hc,hc2⟩
    ·cases hb'
     refine ⟨by rw [hl];rfl,⟨_,_,_,_,hl⟩,fun c hc=> ?_⟩
     rw [r1] at hc;cases hc
     exact fun ht=>ht.2 rfl
  ·cases hf
 ·cases hf
theorem KU {B:kM P} {tm tm2:Nat->SV} {s s2 r:dB} {A:Nat->Prop} {D:List Nat} {nt:Nat} {a:Act} {w:World} {ρ:aG} {T T2:Nat->Prop} (h:fU B tm (aI s) A D nt a w ρ T) {d:Option Nat}
  (hT: ∀c,T2 c->T c) (hback: ∀c,T c->T2 c\/ ∃b,d=some b/\ρ b=some c) (hd: ∀b,d=some b->(aI s b).isSome/\B.n<=b/\ ∀c,ρ b=some c-> ¬T2 c)
  (ht: ∀t,rel ρ T2 w (tm2 t) (a.tmps.getD t undef)) (hs: ∀id sb,aI s2 id=some sb->(aI s id).isSome/\ ∀c,ρ id=some c->eI ρ T2 w sb c) (hn: ∀id,aI s id=none->aI s2 id=none)
  (hr:DY B.n s2 d=some r):fU B tm2 (aI r) A D nt a w ρ T2:=by
 have hlook: ∀id,aI r id=aI s2 id\/(d=some id/\aI r id=none):=fun id=>by
  unfold DY at hr
  split at hr
  ·cases hr;exact .inl rfl
  ·rename_i b
   cases hc:Nat.ble B.n b with
   |false=>rw [hc] at hr;cases hr
   |true=>
    rw [hc] at hr
    cases hr
    rw [tF]
    by_cases hid:id=b
    ·exact .inr ⟨by rw [hid],if_pos hid⟩
    ·exact .inl (if_neg hid)
 have hnone: ∀id,aI s id=none->aI r id=none:=fun id hid=>by
  rcases hlook id with h1|h1
  ·rw [h1];exact hn id hid
  ·exact h1.2
 have hsome: ∀id,(aI r id).isSome->(aI s id).isSome/\d≠some id:=fun id hid=>by
  obtain ⟨sb,hsb⟩:=Option.isSome_iff_exists.1 hid
  rcases hlook id with h1|h1
  ·refine ⟨(hs id sb (by rw [<- h1];exact hsb)).1,fun hd2=> ?_⟩
   subst hd2
   unfold DY at hr
   simp only at hr
   cases hc:Nat.ble B.n id with
   |false=>rw [hc] at hr;cases hr
   |true=>
    rw [hc] at hr
    cases hr
    rw [tF,if_pos rfl] at hsb;cases hsb
  ·rw [h1.2] at hsb;cases hsb
 exact {
  defers:=h.defers.grow (fun c _ h=>hT c h) (aX.refl T w)
  size:=h.size
  tmps:=ht
  store:=fun id sb hid=>by
   obtain ⟨k1,k2⟩:=hsome id (by rw [hid];rfl)
   have hid2:aI s2 id=some sb:=by
    rcases hlook id with h1|h1
    ·rw [<- h1];exact hid
    ·rw [h1.2] at hid;cases hid
   obtain ⟨sb0,hsb0⟩:=Option.isSome_iff_exists.1 k1
   obtain ⟨hA,c,e1,e2,_⟩:=h.store id sb0 hsb0
   refine ⟨hA,c,e1, ?_,(hs id sb hid2).2 c e1⟩
   rcases hback c e2 with h3|⟨b,h3,h4⟩
   ·exact h3
   ·have:=h.inj id b c k1 (hd b h3).1 e1 h4
    subst this
    exact absurd h3 k2
  names:=h.names
  inj:=fun i j c hi hj=>h.inj i j c (hsome i hi).1 (hsome j hj).1
  base:=h.base
  full:=h.full
  grow:=h.grow
  old:=h.old
  tback:=fun c hc ht=>h.tback c hc (hT c ht)
  tkeep:=fun c hc hbt=>by
   rcases h.tkeep c hc hbt with h1|⟨q,q1,q2,q3,q4⟩
   ·rcases hback c h1 with h2|⟨b,h2,h3⟩
    ·exact .inl h2
    ·obtain ⟨k1,k2,_⟩:=hd b h2
     rcases h.fresh b c k1 k2 h3 with h4|⟨q,q1,q2,q3,q4⟩
     ·omega
     ·exact .inr ⟨q,q1,q2,hnone q q3,q4⟩
   ·exact .inr ⟨q,q1,q2,hnone q q3,q4⟩
  fresh:=fun id c h1 h2 h3=>(h.fresh id c (hsome id h1).1 h2 h3).imp (fun x=>x) fun ⟨q,q1,q2,q3,q4⟩=>⟨q,q1,q2,hnone q q3,q4⟩
  inv:=fun g v hg=>⟨fun ht=>(h.inv g v hg).1 (hT _ ht),(h.inv g v hg).2⟩}
theorem wY{n0:Nat}{s r:dB}{d:Option Nat}(h:DY n0 s d=some r): ∀b,d=some b->n0<=b:=fun b hb=>by
 subst hb
 unfold DY at h
 simp only at h
 cases hc:Nat.ble n0 b with
 |false=>rw [hc] at h;cases h
 |true=>exact Nat.le_of_ble_eq_true hc
theorem aAP{n0:Nat}{f:Fz}{s s':St}(h:fz1 n0 f s=some s'):D9 P n0 s s':=by
 rintro B act w rfl ⟨h1,ρ,T,hh⟩
 obtain ⟨ft,fp,fk,fdf⟩:=f
 simp only [fz1] at h
 split at h
 ·split at h
  ·rename_i v d hv
   split at h
   ·rename_i r hr
    cases h
    obtain ⟨T2,k1,k2,k3,k4⟩:=aBe hh hv (wY hr)
    have hmono: ∀(x:SV) (y:Value),rel ρ T w x y->rel ρ T2 w x y:=fZ (fun _ _ h=>h) (fun c _ h=>k1 c h) (aX.refl T w)
    refine ⟨h1,ρ,T2,KU (s2:=s.store) hh k1 k3 (fun b hb=>⟨(k4 b hb).1,wY hr b hb,(k4 b hb).2.2⟩) (fun t=> ?_) (fun id sb hid=> ?_) (fun _ h=>h) hr⟩
    ·simp only [get]
     cases hb:Nat.beq ft t with
     |true=>
      obtain rfl:=Nat.eq_of_beq_eq_true hb
      exact k2 _ (hh.tmps _)
     |false=>exact hmono _ _ (hh.tmps t)
    ·refine ⟨by rw [hid];rfl,fun c hc=> ?_⟩
     obtain ⟨_,c',e1,_,e3⟩:=hh.store id sb hid
     rw [hc] at e1;cases e1
     exact pI (fun _ _ h=>h) (fun c _ h=>k1 c h) (aX.refl T w) rfl e3
   ·cases h
  ·cases h
 ·rename_i k
  split at h
  ·rename_i i hi
   split at h
   ·rename_i e cs hl
    split at h
    ·rename_i v d hv
     split at h
     ·rename_i r hr
      cases h
      obtain ⟨T2,k1,k2,k3,k4⟩:=aBe hh hv (wY hr)
      have hmono: ∀(x:SV) (y:Value),rel ρ T w x y->rel ρ T2 w x y:=fZ (fun _ _ h=>h) (fun c _ h=>k1 c h) (aX.refl T w)
      refine ⟨h1,ρ,T2,KU (s2:=(i,some (.cells e (HD cs k v)))::s.store) hh k1 k3 (fun b hb=>⟨(k4 b hb).1,wY hr b hb,(k4 b hb).2.2⟩) (fun t=>hmono _ _ (hh.tmps t)) (fun id sb hid=> ?_) (fun id hid=> ?_) hr⟩
      ·rw [tF] at hid
       by_cases hii:id=i
       ·rw [if_pos hii] at hid
        cases hid
        subst hii
        refine ⟨by rw [hl];rfl,fun c hc=> ?_⟩
        obtain ⟨_,c',e1,_,vs,e3,e4⟩:=hh.store id _ hl
        rw [hc] at e1;cases e1
        exact ⟨vs,e3,zL hmono cs k _ e4 k2⟩
       ·rw [if_neg hii] at hid
        refine ⟨by rw [hid];rfl,fun c hc=> ?_⟩
        obtain ⟨_,c',e1,_,e3⟩:=hh.store id sb hid
        rw [hc] at e1;cases e1
        exact pI (fun _ _ h=>h) (fun c _ h=>k1 c h) (aX.refl T w) rfl e3
      ·rw [tF]
       by_cases hii:id=i
       ·rw [hii,hl] at hid;cases hid
       ·rw [if_neg hii];exact hid
     ·cases h
    ·cases h
   ·cases h
  ·cases h
theorem J1{n0:Nat}: ∀(l:List Fz) {s s':St},fzP n0 l s=some s'->D9 P n0 s s'
 | [],s,s',h=>by cases h;exact fun _ _ _ _ h=>h
 |f::r,s,s',h=>by
  simp only [fzP] at h
  split at h
  ·rename_i s1 hs1
   exact fun B a w hB hn=>J1 r h B a w hB (aAP hs1 B a w hB hn)
  ·cases h
structure K8 where
 k:e9
 m:List ((Nat×List Nat)×Nat):=[]
 f:List Fz:=[]
def dT(R:List (Nat×K8))(n0 blk:Nat)(s:St):Option St:=
 match R with
 | []=>some s
 |(b,k)::r=>bif Nat.beq b blk then (match yQ n0 k.k.mv s with
   |some s=>match uQ n0 k.m s with
    |some s=>match fzP n0 k.f s with
     |some s=>sR n0 k.k s
     |none=>none
    |none=>none
   |none=>none) else dT r n0 blk s
theorem wE(n0:Nat): ∀R:List (Nat×K8),sC P n0 (dT R n0)
 | [],blk,s,s',h=>by cases h;exact fun _ _ _ _ h=>h
 |(b,k)::r,blk,s,s',h=>by
  simp only [dT] at h
  cases hb:Nat.beq b blk with
  |true=>
   rw [hb] at h
   simp only [cond_true] at h
   split at h
   ·rename_i s1 hs1
    split at h
    ·rename_i s2 hs2
     split at h
     ·rename_i s3 hs3
      exact fun B a w hB hn=>oG h B a w hB (J1 _ hs3 B a w hB (lO _ hs2 B a w hB (kR _ hs1 B a w hB hn)))
     ·cases h
    ·cases h
   ·cases h
  |false=>rw [hb] at h;exact wE n0 r blk s s' h
end Go.Se
namespace Go.Se
variable {P:Program}
theorem DV {k:FuncId} {xs:List SV} {sb:SB} {T0:TypeId} {cs:List SV} {v:SV} {σ':List (Option SB)} {d:List Nat} (n:Nat) (hcs:ids.idsL cs=[]) (hσ: ∀p:Nat,σ'[p]? ≠some none)
  (h:aD P k xs [some sb] v (some (.cells T0 cs)::σ') d):aD P k xs [some sb] (frz n (none::σ') v) [some (.cells T0 cs)] d:=by
 intro ρ T w vals h1 h2 h3 h4
 refine (h ρ T w vals h1 h2 h3 h4).mono fun y w' ⟨ρ',T',hd⟩=> ?_
 obtain ⟨_,b0,_,z1,z2,z3⟩:=h2 0 (by simp)
 have hb0:=(h4.low 0 b0 z1).2
 have z4:=hd.names 0 b0 z1
 have hdead: ∀q:Nat,¬(some (SB.cells T0 cs)::σ')[q]? =some none:=fun q hq=>by
  match q,hq with
  |0,hq=>cases hq
  |q+1,hq=>exact hσ q (by simpa using hq)
 have hst: ∀p s,(none::σ':List (Option SB))[p]? =some (some s)-> ∃b,ρ' p=some b/\eI ρ' T' w' s b/\w.heap.size<=b:=fun p s hp=>by
  match p,hp with
  |0,hp=>cases hp
  |p+1,hp=>
   obtain ⟨b,e1,_,e3⟩:=hd.store (p+1) s (by simpa using hp)
   refine ⟨b,e1,e3, ?_⟩
   rcases hd.fresh (p+1) b (by simp) e1 with h|⟨q,_,hq,_⟩
   ·exact h
   ·exact absurd hq (hdead q)
 refine ⟨fun p=>if p=0 then ρ' 0 else none,fun c=>T' c/\c<w.heap.size,{
  names:=fun p c hp=>by
   have:=(h4.low p c hp).1
   have hp0:p=0:=by simp at this;exact this
   subst hp0
   rw [if_pos rfl];exact hd.names 0 c hp
  only:=fun p c hp=>by
   by_cases hp0:p=0
   ·subst hp0;simp
   ·rw [if_neg hp0] at hp;cases hp
  len:=by simp
  val:=fZ (fun _ _ h=>by cases h) (fun _ _ h=>h) (aX.refl _ _) _ _ (N6 hst n v y hd.val)
  store:=fun p s hp=>by
   match p,hp with
   |0,hp=>
    cases hp
    obtain ⟨b1,e1,e2,e3⟩:=hd.store 0 _ rfl
    rw [z4] at e1;cases e1
    refine ⟨b0,by rw [if_pos rfl];exact z4,⟨e2,hb0⟩, ?_⟩
    obtain ⟨vs0,f1,f2⟩:=e3
    exact ⟨vs0,f1,aR (ρ:=fun _=>none) (ρ':=fun p=>if p=0 then ρ' 0 else none) (T:=T') (fun _ _ h=>by cases h) (fun _ _ h=>h.1) (aX.refl T' w') _ _ (fJ _ _ hcs f2)⟩
  fresh:=fun p c hp hb=>by
   rw [if_neg (by simp at hp;omega)] at hb;cases hb
  inj:=fun p q c hp _ hb=>by
   rw [if_neg (by simp at hp;omega)] at hb;cases hb
  dirty:=hd.dirty
  grow:=hd.grow
  tback:=fun c hc ht=>hd.tback c hc ht.1
  below:=fun p c hp=>by
   by_cases hp0:p=0
   ·subst hp0;rw [if_pos rfl] at hp;exact hd.below 0 c hp
   ·rw [if_neg hp0] at hp;cases hp
  tkeep:=fun c hc ht=>by
   rcases hd.tkeep c hc ht with h|⟨q,_,hq,_⟩
   ·exact .inl ⟨h,hc⟩
   ·exact absurd hq (hdead q)}⟩
theorem X3{α:Type}{f:α->List SV}{d:α}{L:List α}{g:Nat->List SV}(hg: ∀j (h:j<L.length),g j=f L[j]):fzG L.length L.length (f d) g=aY f d L:=by
 funext i
 unfold fzG
 by_cases h:i<L.length
 ·rw [show Nat.blt i L.length=true by simpa using h,cond_true,hg i h,dM h]
 ·rw [show Nat.blt i L.length=false by rw [Bool.eq_false_iff];intro e;exact h (by simpa using e),cond_false,cond_false]
  unfold aY
  rw [List.getD_eq_getElem?_getD,List.getElem?_eq_none (by omega)];rfl
end Go.Se
namespace Go.Proofs.YtghnfjfkjhbgdaaGreatDoor
open Go.Se
set_option maxRecDepth 100000
noncomputable abbrev aGx(R:List (Nat×K8))(u:Nat->Nat)(B:bU Tryz.prog)(n:Nat)(k:FuncId)(xs:List SV)(σ:List (Option SB))(K:KC):Prop:=
 calls (tab.env B u (fun _=>false)) (dT R) B.dom n k xs σ K
noncomputable abbrev aGG(R:List (Nat×K8))(u:Nat->Nat)(B:bU Tryz.prog)(n:Nat):Env:=
 {tab.env B u (fun _=>false) with callee:=calls (tab.env B u (fun _=>false)) (dT R) B.dom n,round:=fun xs σ K=>calls.roundsN (tab.env B u (fun _=>false)) (dT R) B.dom n xs σ K}
def gdD :List Nat:=[0,1,2,3,4,5,6,7,8,9,10,11,12,13,14,15,16,17,18,19,20,21,22,23,24]
def ugR :List (Nat×K8):=[(0,⟨⟨[1,2,3,46,47],[0,1,2,3,4],gdD,5,[]⟩,[((3,[6]),4)],[]⟩),(2,⟨⟨[1,2,3,62,63],[0,1,2,3,4],gdD,5,[]⟩,[((3,[7]),4)],[⟨3,[],some 6,[.int .i64 0]⟩]⟩),(4,⟨⟨[1,2,3,62,63,68,69,70],[0,1,2,3,4],gdD,5,[]⟩,[((3,[7]),4)],[]⟩)]
noncomputable abbrev ugE :Env:=aGG ugR (fun _=>0) o5 3
noncomputable abbrev ugF :Func:=Tryz.f32
abbrev KA :List Nat:=[1,1,1,1,1,1,1,0,1,0]
abbrev lZ :List Nat:=[1,1,1,1,1,1,1,1,0,1,0]
abbrev vL :List Nat:=[1,1,0,0,1,0]
def ugC(a1 a2 a3 a4 x y:Int)(h g k:SV):List SV:=[.int .i64 a1,.int .i64 a2,.int .i64 a3,.int .i64 a4,.int .i64 x,.int .i64 y,h,g,k,.nils,.nils,.nils,.int .i64 0,.int .i64 0,.int .u32 0,.int .i64 0]
def ugS(ts:List (Nat×SV))(C:List SV)(all:Int)(b:Bk)(r:Option SB):St:=⟨(1,.ptr 1 0)::(2,.ptr 2 0)::(3,.ptr 3 0)::ts,[(0,some (.cells 130 (bkC all b))),(1,some (.cells 71 [.ptr 0 0])),(2,some (.cells 34 (ugC 0 0 0 0 0 0 .nils .nils .nils))),(3,some (.cells 34 C)),(4,r)],5,gdD,91⟩
theorem aAO(b:Bk)(all:Int)(K:KC):aGx ugR (fun _=>0) o5 4 32 [.agg [.ptr 0 0]] [some (.cells 130 (bkC all b))] K=
 (∃(e400:Bk),∃(e399:Int),∃(e398:Nat),(((bkC all b)=bkC e399 e400/\1=(↑e398:Int))/\aK e400/\cS e399/\0<e398/\e398<=1000)/\(∀(p396:List (List Int)),∀(b'395:Bk),∀(_:uN e399 e400 (⟨#[114,97,116,101]⟩:ByteArray) e398 p396 b'395),Br (true&&decide (0<(↑e398:Int))) (∃(e392:Bk),∃(e391:Int),((bkC e399 b'395)=bkC e391 e392)/\(∀(v389:Int),∀(b'388:Bk),∀(_:MR e392 (bytesOf (p396.getD (Int.toNat 0) [])) 60 1024 v389 b'388),∃(e386:Bk),∃(e385:Int),∃(e384:Nat),(((bkC e391 b'388)=bkC e385 e386/\1=(↑e384:Int))/\aK e386/\cS e385/\0<e384/\e384<=1000)/\(∀(p382:List (List Int)),∀(b'381:Bk),∀(_:uN e385 e386 (⟨#[99,101,108,108]⟩:ByteArray) e384 p382 b'381),Br (true&&decide (0<(↑e384:Int))) (∃(e378:Bk),∃(e377:Int),((bkC e385 b'381)=bkC e377 e378)/\(∀(v375:Int),∀(b'374:Bk),∀(_:OP e378 (bytesOf (p382.getD (Int.toNat 0) [])) v375 b'374),∃(e372:Bk),∃(e371:Int),∃(e370:Nat),(((bkC e377 b'374)=bkC e371 e372/\2=(↑e370:Int))/\aK e372/\cS e371/\0<e370/\e370<=1000)/\(∀(p368:List (List Int)),∀(b'367:Bk),∀(_:uN e371 e372 (⟨#[115,105,122,101]⟩:ByteArray) e370 p368 b'367),Br (true&&decide (0<(↑e370:Int))) (∃(e364:Bk),∃(e363:Int),((bkC e371 b'367)=bkC e363 e364)/\(∀(v361:Int),∀(b'360:Bk),∀(_:MR e364 (bytesOf (p368.getD (Int.toNat 0) [])) 1 64 v361 b'360),Br (true&&decide (1<(↑e370:Int))) (∃(e357:Bk),∃(e356:Int),((bkC e363 b'360)=bkC e356 e357)/\(∀(v354:Int),∀(b'353:Bk),∀(_:MR e357 (bytesOf (p368.getD (Int.toNat 1) [])) 1 64 v354 b'353),∃(e351:Bk),∃(e350:Int),∃(e349:Nat),(((bkC e356 b'353)=bkC e350 e351/\2=(↑e349:Int))/\aK e351/\cS e350/\0<e349/\e349<=1000)/\(∀(p347:List (List Int)),∀(b'346:Bk),∀(_:uN e350 e351 (⟨#[99,111,114,110,101,114]⟩:ByteArray) e349 p347 b'346),∃(e344:List (List Int)),∃(e343:Bk),∃(e342:Int),((bkC e350 b'346)=bkC e342 e343/\aH p347=aH e344/\2<=e349)/\(∀(x340:Int),∀(y339:Int),∀(b'338:Bk),∀(_:J7 e343 e344 x340 y339 b'338),∃q_,bS ugE (dT ugR 1) ugF KA 0 1 K q_ (ugS [(46,SV.int .i64 (IntKind.i64.wrap (v354+1))),(47,SV.int .i64 0)] (ugC v389 v375 v361 v354 x340 y339 (SV.nils) (SV.nils) SV.nils) e342 b'338 (none)))))) (False))) (False)))) (False)))) (False))):=by kernel_rfl
theorem aFh(a1 a2 a3 a4 x y n:Int)(all:Int)(b:Bk)(i:Nat)(K:Ex->St->Prop):aF ugE (dT ugR 1) ugF KA 0 K (ugS [(46,.int .i64 n),(47,.int .i64 i)] (ugC a1 a2 a3 a4 x y .nils .nils .nils) all b none)=
 (Br (decide ((↑i:Int)<n)) (∃(e399:Bk),∃(e398:Int),∃(e397:Nat),(((bkC all b)=bkC e398 e399/\IntKind.i64.wrap (a3+1)=(↑e397:Int))/\aK e399/\cS e398/\0<e397/\e397<=1000)/\(∀(p395:List (List Int)),∀(b'394:Bk),∀(_:uN e398 e399 (⟨#[104,101,105,103,104,116,115]⟩:ByteArray) e397 p395 b'394),∃(e392:List (List Int)),∃(e391:Bk),∃(e390:Int),(((bkC e398 b'394)=bkC e390 e391/\e397=e392.length/\aH p395=aH e392)/\e392.length<=1000)/\(∀(L388:List Int),∀(b'387:Bk),∀(_:aFl e391 e392 L388 b'387),(∀(i:Nat),i<e397->(aY eR 0 L388 i).length=1/\(aY eR 0 L388 i).all aV=true)/\(Br (true&&(decide (e397*8<=1099511627776)&&decide (e397<9223372036854775808))) (Br (decide (0<e397)) (K Ex.normal (ugS [(46,SV.int .i64 n),(47,SV.int .i64 (IntKind.i64.wrap ((↑i:Int)+1)))] (ugC a1 a2 a3 a4 x y (SV.own 4 0 1 e397) (SV.nils) SV.nils) e390 b'387 (some (SB.row 22 1 e397 (aY eR 0 L388))))) (K Ex.normal (ugS [(46,SV.int .i64 n),(47,SV.int .i64 (IntKind.i64.wrap ((↑i:Int)+1)))] (ugC a1 a2 a3 a4 x y (SV.nils) (SV.nils) SV.nils) e390 b'387 (none)))) (False))))) (K (Ex.exit 0) (ugS [(46,SV.int .i64 n),(47,SV.int .i64 (↑i:Int))] (ugC a1 a2 a3 a4 x y (SV.nils) (SV.nils) SV.nils) all b (none)))):=by kernel_rfl
theorem aAp(a1 a2 a3 a4 x y n:Int)(all:Int)(b:Bk)(i m:Nat)(g:Nat->List SV)(K:Ex->St->Prop):aF ugE (dT ugR 1) ugF KA 0 K (ugS [(46,.int .i64 n),(47,.int .i64 i)] (ugC a1 a2 a3 a4 x y (.own 4 0 1 m) .nils .nils) all b (some (.row 22 1 m g)))=
 (Br (decide ((↑i:Int)<n)) (∃(e399:Bk),∃(e398:Int),∃(e397:Nat),(((bkC all b)=bkC e398 e399/\IntKind.i64.wrap (a3+1)=(↑e397:Int))/\aK e399/\cS e398/\0<e397/\e397<=1000)/\(∀(p395:List (List Int)),∀(b'394:Bk),∀(_:uN e398 e399 (⟨#[104,101,105,103,104,116,115]⟩:ByteArray) e397 p395 b'394),∃(e392:List (List Int)),∃(e391:Bk),∃(e390:Int),(((bkC e398 b'394)=bkC e390 e391/\e397=e392.length/\aH p395=aH e392)/\e392.length<=1000)/\(∀(L388:List Int),∀(b'387:Bk),∀(_:aFl e391 e392 L388 b'387),(∀(i:Nat),i<e397->(aY eR 0 L388 i).length=1/\(aY eR 0 L388 i).all aV=true)/\(Br (true&&decide (m=m)&&(decide ((m+e397)*8<=1099511627776)&&decide (m+e397<9223372036854775808))) (K Ex.normal (ugS [(46,SV.int .i64 n),(47,SV.int .i64 (IntKind.i64.wrap ((↑i:Int)+1)))] (ugC a1 a2 a3 a4 x y (SV.own 4 0 1 (m+e397)) (SV.nils) SV.nils) e390 b'387 (some (SB.row 22 1 (m+e397) (oH m g (aY eR 0 L388)))))) (False))))) (K (Ex.exit 0) (ugS [(46,SV.int .i64 n),(47,SV.int .i64 (↑i:Int))] (ugC a1 a2 a3 a4 x y (SV.own 4 0 1 m) (SV.nils) SV.nils) all b (some (SB.row 22 1 m g))))):=by kernel_rfl
theorem aFD(a1 a2 a3 a4 x y n:Int)(all:Int)(b:Bk)(i m:Nat)(g:Nat->List SV)(K:KC):aE ugE (dT ugR 1) ugF KA 1 K (.exit 0) (ugS [(46,.int .i64 n),(47,.int .i64 i)] (ugC a1 a2 a3 a4 x y (.own 4 0 1 m) .nils .nils) all b (some (.row 22 1 m g)))=
 (∃q_,bS ugE (dT ugR 1) ugF lZ 2 1 K q_ (ugS [(62,SV.int .i64 a4),(63,SV.int .i64 0)] (ugC a1 a2 a3 a4 x y (SV.ro m 1 (fzG m m [SV.int .i64 0] g)) (SV.nils) SV.nils) all b (none))):=by kernel_rfl
theorem Z9(a1 a2 a3 a4 x y n:Int)(nh:Nat)(h:Nat->List SV)(all:Int)(b:Bk)(i:Nat)(K:Ex->St->Prop):aF ugE (dT ugR 1) ugF lZ 2 K (ugS [(62,.int .i64 n),(63,.int .i64 i)] (ugC a1 a2 a3 a4 x y (.ro nh 1 h) .nils .nils) all b none)=
 (Br (decide ((↑i:Int)<n)) (∃(e399:Bk),∃(e398:Int),∃(e397:Nat),(((bkC all b)=bkC e398 e399/\a3=(↑e397:Int))/\aK e399/\cS e398/\0<e397/\e397<=1000)/\(∀(p395:List (List Int)),∀(b'394:Bk),∀(_:uN e398 e399 (⟨#[103,114,111,117,110,100]⟩:ByteArray) e397 p395 b'394),∃q_,iter (aF ugE (dT ugR 1) ugF (lZ++[0]++vL) 4) (jO ugE (dT ugR 1) ugF lZ 2 vL K) q_ (ugS [(62,SV.int .i64 n),(63,SV.int .i64 (↑i:Int)),(68,SV.ro e397 1 (aH p395)),(69,SV.int .i64 (↑e397:Int)),(70,SV.int .i64 0)] (ugC a1 a2 a3 a4 x y (SV.ro nh 1 h) (SV.nils) SV.nils) e398 b'394 (none)))) (K (Ex.exit 2) (ugS [(62,SV.int .i64 n),(63,SV.int .i64 (↑i:Int))] (ugC a1 a2 a3 a4 x y (SV.ro nh 1 h) (SV.nils) SV.nils) all b (none)))):=by kernel_rfl
theorem aAI(a1 a2 a3 a4 x y n:Int)(nh:Nat)(h:Nat->List SV)(all:Int)(b:Bk)(i m:Nat)(g:Nat->List SV)(K:Ex->St->Prop):aF ugE (dT ugR 1) ugF lZ 2 K (ugS [(62,.int .i64 n),(63,.int .i64 i)] (ugC a1 a2 a3 a4 x y (.ro nh 1 h) (.own 4 0 1 m) .nils) all b (some (.row 3 1 m g)))=
 (Br (decide ((↑i:Int)<n)) (∃(e399:Bk),∃(e398:Int),∃(e397:Nat),(((bkC all b)=bkC e398 e399/\a3=(↑e397:Int))/\aK e399/\cS e398/\0<e397/\e397<=1000)/\(∀(p395:List (List Int)),∀(b'394:Bk),∀(_:uN e398 e399 (⟨#[103,114,111,117,110,100]⟩:ByteArray) e397 p395 b'394),∃q_,iter (aF ugE (dT ugR 1) ugF (lZ++[0]++vL) 4) (jO ugE (dT ugR 1) ugF lZ 2 vL K) q_ (ugS [(62,SV.int .i64 n),(63,SV.int .i64 (↑i:Int)),(68,SV.ro e397 1 (aH p395)),(69,SV.int .i64 (↑e397:Int)),(70,SV.int .i64 0)] (ugC a1 a2 a3 a4 x y (SV.ro nh 1 h) (SV.own 4 0 1 m) SV.nils) e398 b'394 (some (SB.row 3 1 m g))))) (K (Ex.exit 2) (ugS [(62,SV.int .i64 n),(63,SV.int .i64 (↑i:Int))] (ugC a1 a2 a3 a4 x y (SV.ro nh 1 h) (SV.own 4 0 1 m) SV.nils) all b (some (SB.row 3 1 m g))))):=by kernel_rfl
abbrev ugT(n:Int)(i:Nat)(l:Nat)(p:List (List Int))(k:Nat):List (Nat×SV):=[(62,.int .i64 n),(63,.int .i64 i),(68,.ro l 1 (aH p)),(69,.int .i64 l),(70,.int .i64 k)]
theorem aFs(a1 a2 a3 a4 x y n:Int)(nh:Nat)(h:Nat->List SV)(all:Int)(b:Bk)(i l k:Nat)(p:List (List Int))(K:Ex->St->Prop):aF ugE (dT ugR 1) ugF (lZ++[0]++vL) 4 K (ugS (ugT n i l p k) (ugC a1 a2 a3 a4 x y (.ro nh 1 h) .nils .nils) all b none)=
 (Br (decide ((↑k:Int)<(↑l:Int))) (Br (decide (0<=(↑k:Int))&&decide ((↑k:Int)<(↑l:Int))) (∃(e398:Bk),∃(e397:Int),((bkC all b)=bkC e397 e398)/\(∀(v395:Int),∀(b'394:Bk),∀(_:MR e398 (bytesOf (p.getD (↑k:Int).toNat [])) 0 7 v395 b'394),K Ex.normal (ugS [(62,SV.int .i64 n),(63,SV.int .i64 (↑i:Int)),(68,SV.ro l 1 (aH p)),(69,SV.int .i64 (↑l:Int)),(70,SV.int .i64 (IntKind.i64.wrap ((↑k:Int)+1)))] (ugC a1 a2 a3 a4 x y (SV.ro nh 1 h) (SV.own 4 0 1 1) SV.nils) e397 b'394 (some (SB.row 3 1 1 fun (i:Nat)=>cut [SV.int .i64 v395] (i*1) 1))))) (False)) (K (Ex.exit 4) (ugS [(62,SV.int .i64 n),(63,SV.int .i64 (↑i:Int)),(68,SV.ro l 1 (aH p)),(69,SV.int .i64 (↑l:Int)),(70,SV.int .i64 (↑k:Int))] (ugC a1 a2 a3 a4 x y (SV.ro nh 1 h) (SV.nils) SV.nils) all b (none)))):=by kernel_rfl
theorem aAL(a1 a2 a3 a4 x y n:Int)(nh:Nat)(h:Nat->List SV)(all:Int)(b:Bk)(i l k m:Nat)(g:Nat->List SV)(p:List (List Int))(K:Ex->St->Prop):aF ugE (dT ugR 1) ugF (lZ++[0]++vL) 4 K (ugS (ugT n i l p k) (ugC a1 a2 a3 a4 x y (.ro nh 1 h) (.own 4 0 1 m) .nils) all b (some (.row 3 1 m g)))=
 (Br (decide ((↑k:Int)<(↑l:Int))) (Br (decide (0<=(↑k:Int))&&decide ((↑k:Int)<(↑l:Int))) (∃(e398:Bk),∃(e397:Int),((bkC all b)=bkC e397 e398)/\(∀(v395:Int),∀(b'394:Bk),∀(_:MR e398 (bytesOf (p.getD (↑k:Int).toNat [])) 0 7 v395 b'394),Br (decide ((m+1)*8<=1099511627776)&&decide (m+1<9223372036854775808)&&decide (m=m)) (K Ex.normal (ugS [(62,SV.int .i64 n),(63,SV.int .i64 (↑i:Int)),(68,SV.ro l 1 (aH p)),(69,SV.int .i64 (↑l:Int)),(70,SV.int .i64 (IntKind.i64.wrap ((↑k:Int)+1)))] (ugC a1 a2 a3 a4 x y (SV.ro nh 1 h) (SV.own 4 0 1 (m+1)) SV.nils) e397 b'394 (some (SB.row 3 1 (m+1) (bJ m [SV.int .i64 v395] g))))) (False))) (False)) (K (Ex.exit 4) (ugS [(62,SV.int .i64 n),(63,SV.int .i64 (↑i:Int)),(68,SV.ro l 1 (aH p)),(69,SV.int .i64 (↑l:Int)),(70,SV.int .i64 (↑k:Int))] (ugC a1 a2 a3 a4 x y (SV.ro nh 1 h) (SV.own 4 0 1 m) SV.nils) all b (some (SB.row 3 1 m g))))):=by kernel_rfl
theorem aE9(a1 a2 a3 a4 x y n:Int)(nh:Nat)(h:Nat->List SV)(all:Int)(b:Bk)(i l k m:Nat)(g:Nat->List SV)(p:List (List Int))(K:Ex->St->Prop):jO ugE (dT ugR 1) ugF lZ 2 vL K (.exit 4) (ugS (ugT n i l p k) (ugC a1 a2 a3 a4 x y (.ro nh 1 h) (.own 4 0 1 m) .nils) all b (some (.row 3 1 m g)))=
 (K Ex.normal (ugS [(62,SV.int .i64 n),(63,SV.int .i64 (IntKind.i64.wrap ((↑i:Int)+1)))] (ugC a1 a2 a3 a4 x y (SV.ro nh 1 h) (SV.own 4 0 1 m) SV.nils) all b (some (SB.row 3 1 m g)))):=by kernel_rfl
theorem aDU(a1 a2 a3 a4 x y n:Int)(nh:Nat)(h:Nat->List SV)(all:Int)(b:Bk)(i:Nat)(K:KC):aE ugE (dT ugR 1) ugF lZ 1 K (.exit 2) (ugS [(62,.int .i64 n),(63,.int .i64 i)] (ugC a1 a2 a3 a4 x y (.ro nh 1 h) .nils .nils) all b none)=
 (∃(e400:Bk),∃(e399:Int),∃(e398:Nat),(((bkC all b)=bkC e399 e400/\8=(↑e398:Int)/\79=79)/\aK e400/\cS e399/\e398<=1000)/\(∀(L396:List (Int×Int×Bool)),∀(b'395:Bk),∀(_:PR (⟨#[107,105,110,100]⟩:ByteArray) (gQ e399) e398 e400 L396 b'395),K (SV.agg [SV.int .i64 a1,SV.int .i64 a2,SV.int .i64 a3,SV.int .i64 a4,SV.int .i64 x,SV.int .i64 y,SV.ro nh 1 h,SV.nils,SV.ro L396.length 3 (aY kiL (0,0,false) L396),SV.nils,SV.nils,SV.nils,SV.int .i64 0,SV.int .i64 0,SV.int .u32 0,SV.int .i64 0]) [some (SB.cells 130 (bkC e399 b'395))] [0])):=by kernel_rfl
theorem aD4(a1 a2 a3 a4 x y n:Int)(nh:Nat)(h:Nat->List SV)(all:Int)(b:Bk)(i m:Nat)(g:Nat->List SV)(K:KC):aE ugE (dT ugR 1) ugF lZ 1 K (.exit 2) (ugS [(62,.int .i64 n),(63,.int .i64 i)] (ugC a1 a2 a3 a4 x y (.ro nh 1 h) (.own 4 0 1 m) .nils) all b (some (.row 3 1 m g)))=
 (∃(e400:Bk),∃(e399:Int),∃(e398:Nat),(((bkC all b)=bkC e399 e400/\8=(↑e398:Int)/\79=79)/\aK e400/\cS e399/\e398<=1000)/\(∀(L396:List (Int×Int×Bool)),∀(b'395:Bk),∀(_:PR (⟨#[107,105,110,100]⟩:ByteArray) (gQ e399) e398 e400 L396 b'395),K (SV.agg [SV.int .i64 a1,SV.int .i64 a2,SV.int .i64 a3,SV.int .i64 a4,SV.int .i64 x,SV.int .i64 y,SV.ro nh 1 h,SV.own 1 0 1 m,SV.ro L396.length 3 (aY kiL (0,0,false) L396),SV.nils,SV.nils,SV.nils,SV.int .i64 0,SV.int .i64 0,SV.int .u32 0,SV.int .i64 0]) [some (SB.cells 130 (bkC e399 b'395)),some (SB.row 3 1 m g)] [0])):=by kernel_rfl
theorem aGA (a1 a2 a3 a4 x y:Int) (all:Int) (b0:Bk) (hb:aK b0) (ha:cS all) (h3:0<=a3/\a3<=64) (h4:0<=a4/\a4<=64) (K:KC)
  (hK: ∀(L:List Int) (b:Bk),(L,b)=dS (kU all (a3+1).toNat) (a4+1).toNat b0->aK b-> ∃q,bS ugE (dT ugR 1) ugF lZ 2 1 K q (ugS [(62,.int .i64 a4),(63,.int .i64 0)] (ugC a1 a2 a3 a4 x y (mD 1 eR 0 L) .nils .nils) all b none)):
  ∃q,bS ugE (dT ugR 1) ugF KA 0 1 K q (ugS [(46,.int .i64 (IntKind.i64.wrap (a4+1))),(47,.int .i64 0)] (ugC a1 a2 a3 a4 x y .nils .nils .nils) all b0 none):=by
 have w3:IntKind.i64.wrap (a3+1)=(((a3+1).toNat:Nat):Int):=by rw [g7];omega
 have w4:IntKind.i64.wrap (a4+1)=(((a4+1).toNat:Nat):Int):=by rw [g7];omega
 rw [w4]
 have hm0:0<(a3+1).toNat:=by omega
 have hm1:(a3+1).toNat<=65:=by omega
 have hr0:0<(a4+1).toNat:=by omega
 have hr1:(a4+1).toNat<=65:=by omega
 generalize (a3+1).toNat=m at*
 generalize (a4+1).toNat=r at*
 have hok: ∀i,aK (dS (kU all m) i b0).2:=oS (fun _ h=>HP h) hb
 have hlen: ∀i,(dS (kU all m) i b0).1.length=i*m:=xK (fun _ h=>HP h) (fun _ h=>CH h) hb
 refine ⟨r+1, ?_⟩
 show iter (aF ugE (dT ugR 1) ugF KA 0) (aE ugE (dT ugR 1) ugF KA 1 K) (r+1) (ugS [(46,.int .i64 (r:Nat)),(47,.int .i64 ((0:Nat):Int))] (ugC a1 a2 a3 a4 x y .nils .nils .nils) all (dS (kU all m) 0 b0).2 none)
 refine uT (e:=22) (st:=1) (id:=4) (f:=eR) (fun i=>(dS (kU all m) i b0).1) (fun o r' i=>ugS [(46,.int .i64 (r:Nat)),(47,.int .i64 (i:Nat))] (ugC a1 a2 a3 a4 x y o .nils .nils) all (dS (kU all m) i b0).2 r') r kS (fun i o r' hi ht X hX=> ?_) fun o r' ht X=> ?_
 ·have hl:=hlen i
  have him:i*m<=65*65:=Nat.mul_le_mul (by omega) hm1
  rcases ht with ⟨h0,rfl,rfl⟩|⟨g,hne,rfl,rfl,hg⟩
  ·rw [aFh,aQ hi (by omega)]
   refine Br.of (fun _=>⟨_,all,m,⟨⟨rfl,w3⟩,hok i,ha,hm0,by omega⟩,fun p b1 h1=>⟨p,b1,all,⟨⟨rfl,h1.1.2.symm,rfl⟩,by rw [h1.1.2];omega⟩,fun L b2 h2=>⟨fun _ _=>⟨rfl,rfl⟩,Br.of (fun _=>Br.of (fun _=> ?_) fun c=>absurd hm0 (of_decide_eq_false c)) fun c=>absurd c (by simp;omega)⟩⟩⟩) fun c=>nZ hi c
   obtain ⟨⟨rfl,hl1⟩,rfl⟩:=h1
   obtain ⟨⟨rfl,hl2⟩,rfl⟩:=h2
   refine hX _ _ ?_
   show bZ _ 1 4 eR ((dS (kU all m) i b0).1++(kU all m (dS (kU all m) i b0).2).1) _ _
   rw [h0,List.nil_append]
   have e:(kU all m (dS (kU all m) i b0).2).1.length=m:=CH (hok i)
   exact .inr ⟨_,fun hn=>by rw [hn] at e;simp at e;omega,by rw [e],by rw [e];rfl,fun j hj=>dM hj⟩
  ·rw [aAp,aQ hi (by omega)]
   refine Br.of (fun _=>⟨_,all,m,⟨⟨rfl,w3⟩,hok i,ha,hm0,by omega⟩,fun p b1 h1=>⟨p,b1,all,⟨⟨rfl,h1.1.2.symm,rfl⟩,by rw [h1.1.2];omega⟩,fun L b2 h2=>⟨fun _ _=>⟨rfl,rfl⟩,Br.of (fun _=> ?_) fun c=>absurd c (by simp;omega)⟩⟩⟩) fun c=>nZ hi c
   obtain ⟨⟨rfl,hl1⟩,rfl⟩:=h1
   obtain ⟨⟨rfl,hl2⟩,rfl⟩:=h2
   refine hX _ _ ?_
   have e:(kU all m (dS (kU all m) i b0).2).1.length=m:=CH (hok i)
   exact NJ (L:=(dS (kU all m) i b0).1) (p:=(kU all m (dS (kU all m) i b0).2).1) (fun hn=>by rw [hn] at e;simp at e;omega) rfl e.symm hg fun j hj=>dM hj
 ·have hl:=hlen r
  have hpos:0<r*m:=Nat.mul_pos hr0 hm0
  rcases ht with ⟨h0,rfl,rfl⟩|⟨g,hne,rfl,rfl,hg⟩
  ·rw [h0] at hl;simp at hl;omega
  ·rw [aAp]
   refine Br.of (fun c=>mZ c) fun _=> ?_
   show aE ugE (dT ugR 1) ugF KA 1 K (.exit 0) (ugS [(46,.int .i64 (r:Nat)),(47,.int .i64 (r:Nat))] (ugC a1 a2 a3 a4 x y (.own 4 0 1 _) .nils .nils) all _ (some (.row 22 1 _ g)))
   rw [aFD]
   have:=hK _ _ rfl (hok r)
   unfold mD at this
   rw [<- X3 (d:=0) hg] at this
   exact this
theorem aGB (a1 a2 a3 a4 x y n:Int) (nh:Nat) (h:Nat->List SV) (all:Int) (b1:Bk) (i l:Nat) (p:List (List Int)) (hp:p.length=l) (hl:0<l) (hl2:l<=64) (L:List Int) (hL:L.length<=100000) {o:SV} {r:Option SB} (ht:bZ 3 1 4 eR L o r) (K:Ex->St->Prop)
  (hK: ∀o' r',bZ 3 1 4 eR (L++(p.foldl (mF 0 7) ([],b1)).1) o' r'->K .normal (ugS [(62,.int .i64 n),(63,.int .i64 (IntKind.i64.wrap ((i:Nat)+1)))] (ugC a1 a2 a3 a4 x y (.ro nh 1 h) o' .nils) all (p.foldl (mF 0 7) ([],b1)).2 r')):
  ∃q,iter (aF ugE (dT ugR 1) ugF (lZ++[0]++vL) 4) (jO ugE (dT ugR 1) ugF lZ 2 vL K) q (ugS (ugT n i l p 0) (ugC a1 a2 a3 a4 x y (.ro nh 1 h) o .nils) all b1 r):=by
 refine ⟨l+1, ?_⟩
 show iter (aF ugE (dT ugR 1) ugF (lZ++[0]++vL) 4) (jO ugE (dT ugR 1) ugF lZ 2 vL K) (l+1) (ugS (ugT n i l p 0) (ugC a1 a2 a3 a4 x y (.ro nh 1 h) o .nils) all ((p.take 0).foldl (mF 0 7) ([],b1)).2 r)
 refine uT (e:=3) (st:=1) (id:=4) (f:=eR) (fun k=>L++((p.take k).foldl (mF 0 7) ([],b1)).1) (fun o r' k=>ugS (ugT n i l p k) (ugC a1 a2 a3 a4 x y (.ro nh 1 h) o .nils) all ((p.take k).foldl (mF 0 7) ([],b1)).2 r') l (by show bZ _ 1 4 eR (L++[]) o r;rw [List.append_nil];exact ht) (fun k o r' hk ht X hX=> ?_) fun o r' ht X=> ?_
 ·have hf:=PJ (mF 0 7) (([],b1):List Int×Bk) (p:=p) (i:=k) (by omega)
  have hkl:((p.take k).foldl (mF 0 7) ([],b1)).1.length=k:=by rw [B9,List.length_take];simp;omega
  simp only [hf] at hX
  generalize (p.take k).foldl (mF 0 7) ([],b1)=s at*
  obtain ⟨M,b⟩:=s
  simp only at ht hX hkl|-
  have hX: ∀v:Int,v=jT b (rl (p.getD k [])) 0 7-> ∀o' r',bZ 3 1 4 eR ((L++M)++[v]) o' r'->X (ugS (ugT n i l p (k+1)) (ugC a1 a2 a3 a4 x y (.ro nh 1 h) o' .nils) all (iC b (rl (p.getD k [])) 0 7) r'):=fun v hv o' r' ht=>hX o' r' (by
   show bZ _ 1 4 eR (L++(M++[jT b (rl (p.getD k [])) 0 7])) o' r'
   rw [<- hv,<- List.append_assoc];exact ht)
  rcases ht with ⟨h0,rfl,rfl⟩|⟨g,hne,rfl,rfl,hg⟩
  ·rw [aFs,aQ hk (by omega),Int.toNat_natCast]
   refine Br.of (fun _=>Br.of (fun _=>⟨b,all,rfl,fun v b' hv=> ?_⟩) fun c=>oO hk c) fun c=>nZ hk c
   obtain ⟨hv,rfl⟩:=hv
   exact hX v hv _ _ (by rw [h0];exact eU rfl rfl)
  ·have hlen:(L++M).length<=100100:=by rw [List.length_append];omega
   rw [aAL,aQ hk (by omega),Int.toNat_natCast]
   refine Br.of (fun _=>Br.of (fun _=>⟨b,all,rfl,fun v b' hv=>Br.of (fun _=> ?_) fun c=>absurd c (by rw [List.length_append] at hlen;simp;omega)⟩) fun c=>oO hk c) fun c=>nZ hk c
   obtain ⟨hv,rfl⟩:=hv
   exact hX v hv _ _ (fR rfl rfl hg)
 ·rw [<- hp,List.take_length] at ht|-
  rcases ht with ⟨h0,rfl,rfl⟩|⟨g,hne,rfl,rfl,hg⟩
  ·have:=congrArg List.length h0
   simp only [List.length_append,B9,List.length_nil] at this
   omega
  ·rw [aAL]
   refine Br.of (fun c=>mZ c) fun _=> ?_
   show jO ugE (dT ugR 1) ugF lZ 2 vL K (.exit 4) (ugS (ugT n i p.length p p.length) (ugC a1 a2 a3 a4 x y (.ro nh 1 h) (.own 4 0 1 _) .nils) all _ (some (.row 3 1 _ g)))
   rw [aE9]
   exact hK _ _ (.inr ⟨g,hne,rfl,rfl,hg⟩)
def aDi(v:SV->SV)(L:List Int)(b:SB)(K:KC):Prop:=
 (L=[]->K (v .nils) [some b] [0])/\ ∀g,L≠[]->(∀j (h:j<L.length),g j=eR L[j])->K (v (.own 1 0 1 L.length)) [some b,some (.row 3 1 L.length g)] [0]
theorem aGK (a1 a2 a3 a4 x y:Int) (L0:List Int) (all:Int) (b0:Bk) (hb:aK b0) (ha:cS all) (h3:0<=a3/\a3<=64) (h4:0<=a4/\a4<=64) (h34:a4≠0->1<=a3) (K:KC)
  (hK: ∀(G:List Int) (b:Bk),(G,b)=dS (pG all a3.toNat) a4.toNat b0-> ∀(L:List (Int×Int×Bool)) (b':Bk),PR (ba iO) (gQ all) 8 b L b'->aDi (fun g=> .agg (ugC a1 a2 a3 a4 x y (mD 1 eR 0 L0) g (mD 3 kiL (0,0,false) L))) G (.cells 130 (bkC all b')) K):
  ∃q,bS ugE (dT ugR 1) ugF lZ 2 1 K q (ugS [(62,.int .i64 a4),(63,.int .i64 0)] (ugC a1 a2 a3 a4 x y (mD 1 eR 0 L0) .nils .nils) all b0 none):=by
 have hok: ∀i,aK (dS (pG all a3.toNat) i b0).2:=oS (fun _ h=>HL h) hb
 have hlen: ∀i,(dS (pG all a3.toNat) i b0).1.length=i*a3.toNat:=xK (fun _ h=>HL h) (fun _ h=>X6 h) hb
 refine ⟨a4.toNat+1, ?_⟩
 show iter (aF ugE (dT ugR 1) ugF lZ 2) (aE ugE (dT ugR 1) ugF lZ 1 K) (a4.toNat+1) (ugS [(62,.int .i64 a4),(63,.int .i64 ((0:Nat):Int))] (ugC a1 a2 a3 a4 x y (.ro L0.length 1 (aY eR 0 L0)) .nils .nils) all (dS (pG all a3.toNat) 0 b0).2 none)
 refine uT (e:=3) (st:=1) (id:=4) (f:=eR) (fun i=>(dS (pG all a3.toNat) i b0).1) (fun o r' i=>ugS [(62,.int .i64 a4),(63,.int .i64 (i:Nat))] (ugC a1 a2 a3 a4 x y (.ro L0.length 1 (aY eR 0 L0)) o .nils) all (dS (pG all a3.toNat) i b0).2 r') a4.toNat kS (fun i o r' hi ht X hX=> ?_) fun o r' ht X=> ?_
 ·have h1:=h34 (by omega)
  have hl:=hlen i
  have him:i*a3.toNat<=64*64:=Nat.mul_le_mul (by omega) (by omega)
  have hw:IntKind.i64.wrap (((i:Nat):Int)+1)=((i+1:Nat):Int):=by rw [g7];omega
  have step: ∀(p:List (List Int)) (b1:Bk),uN all (dS (pG all a3.toNat) i b0).2 (ba iS) a3.toNat p b1-> ∀KK,∃q,iter (aF ugE (dT ugR 1) ugF (lZ++[0]++vL) 4) (jO ugE (dT ugR 1) ugF lZ 2 vL (fQ X KK)) q (ugS (ugT a4 i a3.toNat p 0) (ugC a1 a2 a3 a4 x y (.ro L0.length 1 (aY eR 0 L0)) o .nils) all b1 r'):=fun p b1 hp KK=>by
   obtain ⟨⟨rfl,hpl⟩,rfl⟩:=hp
   refine aGB a1 a2 a3 a4 x y a4 L0.length (aY eR 0 L0) all _ i a3.toNat _ hpl (by omega) (by omega) _ (by omega) ht _ fun o' r'' ht'=> ?_
   rw [hw]
   exact hX o' r'' ht'
  have e3:a3=((a3.toNat:Nat):Int):=by omega
  rcases ht with ⟨h0,rfl,rfl⟩|⟨g,hne,rfl,rfl,hg⟩
  ·rw [Z9]
   exact Br.of (fun _=>⟨_,all,a3.toNat,⟨⟨rfl,e3⟩,hok i,ha,by omega,by omega⟩,fun p b1 hp=>step p b1 hp _⟩) fun c=>absurd (of_decide_eq_false c) (by omega)
  ·rw [aAI]
   exact Br.of (fun _=>⟨_,all,a3.toNat,⟨⟨rfl,e3⟩,hok i,ha,by omega,by omega⟩,fun p b1 hp=>step p b1 hp _⟩) fun c=>absurd (of_decide_eq_false c) (by omega)
 ·have e4:a4=((a4.toNat:Nat):Int):=by omega
  have hK:=fun L b' h=>hK (dS (pG all a3.toNat) a4.toNat b0).1 (dS (pG all a3.toNat) a4.toNat b0).2 rfl L b' h
  have hok:=hok a4.toNat
  generalize dS (pG all a3.toNat) a4.toNat b0=s at*
  rcases ht with ⟨h0,rfl,rfl⟩|⟨g,hne,rfl,rfl,hg⟩
  ·rw [Z9]
   refine Br.of (fun c=>absurd (of_decide_eq_true c) (by omega)) fun _=> ?_
   show aE ugE (dT ugR 1) ugF lZ 1 K (.exit 2) (ugS [(62,.int .i64 a4),(63,.int .i64 (a4.toNat:Nat))] (ugC a1 a2 a3 a4 x y (.ro L0.length 1 (aY eR 0 L0)) .nils .nils) all s.2 none)
   rw [aDU]
   exact ⟨_,all,8,⟨⟨rfl,rfl,rfl⟩,hok,ha,by decide⟩,fun L b' h=>(hK L b' h).1 h0⟩
  ·rw [aAI]
   refine Br.of (fun c=>absurd (of_decide_eq_true c) (by omega)) fun _=> ?_
   show aE ugE (dT ugR 1) ugF lZ 1 K (.exit 2) (ugS [(62,.int .i64 a4),(63,.int .i64 (a4.toNat:Nat))] (ugC a1 a2 a3 a4 x y (.ro L0.length 1 (aY eR 0 L0)) (.own 4 0 1 _) .nils) all s.2 (some (.row 3 1 _ g)))
   rw [aD4]
   exact ⟨_,all,8,⟨⟨rfl,rfl,rfl⟩,hok,ha,by decide⟩,fun L b' h=>(hK L b' h).2 g hne hg⟩
theorem aEC (all:Int) (b:Bk) (hb:aK b) (ha:cS all) (K:KC)
  (hK: ∀t b',(t,b')=eO all b->aDi (fun g=> .agg (ugC t.rate t.cell t.cols t.rows t.corner.1 t.corner.2 (mD 1 eR 0 t.heights) g (mD 3 kiL (0,0,false) t.kinds))) t.ground (.cells 130 (bkC all b')) K):
  aGx ugR (fun _=>0) o5 4 32 [.agg [.ptr 0 0]] [some (.cells 130 (bkC all b))] K:=by
 rw [aAO]
 refine ⟨b,all,1,⟨⟨rfl,rfl⟩,hb,ha,by decide,by decide⟩,fun p1 b1 h1=>⟨b1,all,rfl,fun v1 b2 h2=> ?_⟩⟩
 obtain ⟨⟨rfl,_⟩,rfl⟩:=h1
 obtain ⟨hv1,hb2⟩:=h2
 have e1:(v1,b2)=EG all (ba rO) 60 1024 b:=by rw [hv1,hb2];rfl
 have k1:aK b2:=by rw [show b2=_ from congrArg Prod.snd e1];exact QF hb
 clear hv1 hb2
 refine ⟨b2,all,1,⟨⟨rfl,rfl⟩,k1,ha,by decide,by decide⟩,fun p2 b3 h3=>⟨b3,all,rfl,fun v2 b4 h4=> ?_⟩⟩
 obtain ⟨⟨rfl,_⟩,rfl⟩:=h3
 obtain ⟨hv2,hb4⟩:=h4
 have e2:(v2,b4)=K5 all (ba s5) b2:=by rw [hv2,hb4];rfl
 have k2:aK b4:=by rw [show b4=_ from congrArg Prod.snd e2];exact R0 k1
 clear hv2 hb4
 refine ⟨b4,all,2,⟨⟨rfl,rfl⟩,k2,ha,by decide,by decide⟩,fun p3 b5 h5=>⟨b5,all,rfl,fun v3 b6 h6=>⟨b6,all,rfl,fun v4 b7 h7=> ?_⟩⟩⟩
 obtain ⟨⟨rfl,_⟩,rfl⟩:=h5
 obtain ⟨hv3,rfl⟩:=h6
 obtain ⟨hv4,hb7⟩:=h7
 have e3:((v3,v4),b7)=u5 all b4:=by rw [hv3,hv4,hb7];rfl
 have k3:aK b7:=by rw [show b7=_ from congrArg Prod.snd e3];exact Q2 k2
 clear hv3 hv4 hb7
 refine ⟨b7,all,2,⟨⟨rfl,rfl⟩,k3,ha,by decide,by decide⟩,fun p4 b8 h8=>⟨p4,b8,all,⟨rfl,rfl,by decide⟩,fun x y b9 h9=> ?_⟩⟩
 obtain ⟨⟨rfl,_⟩,rfl⟩:=h8
 obtain ⟨hxy,hb9⟩:=h9
 have e4:((x,y),b9)=nK all b7:=by rw [hxy,hb9];rfl
 have k4:aK b9:=by rw [show b9=_ from congrArg Prod.snd e4];exact DP k3
 clear hxy hb9
 obtain ⟨r1,r2,r3⟩:=YQ all b4
 rw [<- e3] at r1 r2 r3
 refine aGA v1 v2 v3 v4 x y all b9 k4 ha r1 r2 K fun H b10 eH k5=>aGK v1 v2 v3 v4 x y H all b10 k5 ha r1 r2 r3 K fun G b11 eG L b12 hL=> ?_
 refine hK ⟨v1,v2,v3,v4,(x,y),H,G,L,[],[],[],(0,0),0,0⟩ b12 ?_
 unfold eO
 rw [<- e1];simp only
 rw [<- e2];simp only
 rw [<- e3];simp only
 rw [<- e4];simp only
 rw [<- eH];simp only
 rw [<- eG];simp only
 rw [<- show (L,b12)=cJ (ba iO) (gQ all) 8 ([],b11) from hL]
def ugV(t:TL):SV:= .agg (ugC t.rate t.cell t.cols t.rows t.corner.1 t.corner.2 (mD 1 eR 0 t.heights) (mD 1 eR 0 t.ground) (mD 3 kiL (0,0,false) t.kinds))
theorem QS{a1 a2 a3 a4 x y:Int}{h g g' k:SV}{ρ:aG}{T:Nat->Prop}{w:World}(hg: ∀v,rel ρ T w g v->rel ρ T w g' v){v:Value}(hv:rel ρ T w (.agg (ugC a1 a2 a3 a4 x y h g k)) v):rel ρ T w (.agg (ugC a1 a2 a3 a4 x y h g' k)) v:=by
 obtain ⟨a,rfl,v1,l1,e1,q1,v2,l2,e2,q2,v3,l3,e3,q3,v4,l4,e4,q4,v5,l5,e5,q5,v6,l6,e6,q6,v7,l7,e7,q7,v8,l8,e8,q8,q9⟩:=hv
 exact ⟨a,rfl,v1,l1,e1,q1,v2,l2,e2,q2,v3,l3,e3,q3,v4,l4,e4,q4,v5,l5,e5,q5,v6,l6,e6,q6,v7,l7,e7,q7,v8,l8,e8,hg _ q8,q9⟩
theorem aGv(b:Bk)(all:Int)(hb:aK b)(ha:cS all):aD Tryz.prog 32 [.agg [.ptr 0 0]] [some (.cells 130 (bkC all b))] (ugV (eO all b).1) [some (.cells 130 (bkC all (eO all b).2))] [0]:=by
 generalize hx:eO all b=x
 obtain ⟨t,b'⟩:=x
 obtain ⟨v,σ',d,hv,hc⟩:=cA (env:=tab.env o5 (fun _=>0) (fun _=>false)) ⟨tab.htt,o5.ok⟩ tab.mixed (fun n=>wE n ugR) tab.hft 4 _ _ _
  (fun v σ' d=>(t.ground=[]/\v= .agg (ugC t.rate t.cell t.cols t.rows t.corner.1 t.corner.2 (mD 1 eR 0 t.heights) .nils (mD 3 kiL (0,0,false) t.kinds))/\σ'=[some (.cells 130 (bkC all b'))]/\d=[0])\/
   ∃g,(∀j (h:j<t.ground.length),g j=eR t.ground[j])/\v= .agg (ugC t.rate t.cell t.cols t.rows t.corner.1 t.corner.2 (mD 1 eR 0 t.heights) (.own 1 0 1 t.ground.length) (mD 3 kiL (0,0,false) t.kinds))/\σ'=[some (.cells 130 (bkC all b')),some (.row 3 1 t.ground.length g)]/\d=[0])
  (aEC all b hb ha _ fun t' b'' e=>by
   rw [hx] at e
   cases e
   exact ⟨fun h=> .inl ⟨h,rfl,rfl,rfl⟩,fun g _ hg=> .inr ⟨g,hg,rfl,rfl,rfl⟩⟩)
 rcases hv with ⟨h0,rfl,rfl,rfl⟩|⟨g,hg,rfl,rfl,rfl⟩
 ·refine qP (fun ρ T w z hz=>QS (fun v hv=> ?_) hz) hc
  show rel ρ T w (.ro t.ground.length 1 _) v
  rw [h0];exact fY hv
 ·refine qP (fun ρ T w z hz=> ?_) (DV 2 (yB b' all) (σ':=[some (.row 3 1 t.ground.length g)]) (fun p hp=>by
   match p,hp with
   |0,hp=>cases hp) hc)
  have hb:Nat.ble t.ground.length t.ground.length=true:=by simp
  have hz:rel ρ T w (.agg (ugC t.rate t.cell t.cols t.rows t.corner.1 t.corner.2 (mD 1 eR 0 t.heights) (bif Nat.ble t.ground.length t.ground.length then .ro t.ground.length 1 g else .junk) (mD 3 kiL (0,0,false) t.kinds))) z:=hz
  rw [hb] at hz
  exact QS (fun v hv=>y9 rfl (fun i hi=>by rw [hg i hi,dM hi]) hv) hz
theorem aEw(xs:List SV)(σ:List (Option SB)):Sat Tryz.prog 32 xs σ (zO ugV (isF eO) xs σ):=rX (F:=eO) (fun _ _=>rfl) aGv xs σ
end Go.Proofs.YtghnfjfkjhbgdaaGreatDoor
namespace Go.Se
variable {P:Program}
theorem IY {k:FuncId} {fn:Func} (hf:P.funcs[k]? =some fn) (hname:(fn.name== "runtime.NumGoroutine")=false) (hb:fn.body.isNone=true)
  (hn:Extern.findNext fn=none) (he:Extern.find fn=some Extern.AbiNoEscape.same) (x:SV) (σ:List (Option SB)):aD P k [x] σ x σ []:=by
 intro ρ T w vals h1 h2 h3 h4
 obtain ⟨a,r,hv,ha,hr⟩:=h1
 cases hr
 obtain rfl:vals= #[a]:=by rw [<- Array.toList_inj,hv]
 refine .inr ⟨a,w, ?_,ρ,T,{
  names:=fun _ _ h=>h
  only:=fun p b h=>(h4 p b h).1
  len:=Nat.le_refl _
  val:=ha
  store:=fun p sb h=> ?_
  fresh:=fun p b hp h=>absurd (h4 p b h).1 (Nat.not_lt.2 hp)
  inj:=fun p q b hp _ h _=>absurd (h4 p b h).1 (Nat.not_lt.2 hp)
  dirty:=fun _ h=>by cases h
  grow:=aX.refl _ _
  tback:=fun _ _ h=>h
  below:=fun p b h=>(h4 p b h).2
  tkeep:=fun _ _ h=> .inl h}⟩
 ·rw [run_callFunc_extern hf hname hb hn he]
  rfl
 ·have hp:p<σ.length:=by
   refine Nat.not_le.1 fun hh=> ?_
   rw [List.getElem?_eq_none hh] at h;cases h
  obtain ⟨sb',b,e,hb',hT,hrel⟩:=h2 p hp
  rw [e] at h;cases h
  exact ⟨b,hb',hT,hrel⟩
def aBS :List SV->List (Option SB)->Out
 | [.ptr i o],σ=>some (.ptr i o,σ,[])
 |_,_=>none
theorem aBD {k:FuncId} {fn:Func} (hf:P.funcs[k]? =some fn) (hname:(fn.name== "runtime.NumGoroutine")=false) (hb:fn.body.isNone=true)
  (hn:Extern.findNext fn=none) (he:Extern.find fn=some Extern.AbiNoEscape.same) (xs:List SV) (σ:List (Option SB)):Sat P k xs σ (one aBS xs σ):=by
 refine bC (fun xs σ v σ' d h=> ?_) xs σ
 unfold aBS at h
 split at h
 ·cases h;exact IY hf hname hb hn he _ _
 ·cases h
end Go.Se
namespace Go.Se
variable {P:Program}
theorem D1 {k:FuncId} {fn:Func} (hf:P.funcs[k]? =some fn) (hname:(fn.name== "runtime.NumGoroutine")=false) (hb:fn.body.isNone=true)
  (hn:Extern.findNext fn=none) {ps:Array TypeId} {t e:TypeId} (he:Extern.find fn=some (Extern.BytealgMakeNoZero.makeNoZero ps #[t])) (ht:P.underlying t=some (.slice e)) (n:Nat) (hn2:n<=1099511627776):
  aD P k [.int .i64 n] [] (.own 0 0 1 n) [some (.row e 1 n fun _=>[.junk])] []:=by
 intro ρ T w vals h1 _ h3 h4
 obtain ⟨a,r,hv,ha,hr⟩:=h1
 cases hr
 obtain rfl:vals= #[a]:=by rw [<- Array.toList_inj,hv]
 obtain rfl:a= .int .i64 n:=ha.1
 obtain ⟨cs,hrun,hle,hmax⟩:=Lib.run_makeNoZero (P:=P) w ps t e ht n (by omega)
 have hmx:=hmax (by simp only [maxLen];omega)
 simp only [maxLen] at hmx
 have hρ: ∀p,ρ p=none:=fun p=>by
  cases hp:ρ p with
  |none=>rfl
  |some b=>exact absurd (h4 p b hp).1 (Nat.not_lt_zero _)
 have hsz:(w.drew.drew.alloc (.cells cs e)).heap.size=w.heap.size+1:=by show (w.heap.push _).size=_;simp
 have hnew:(w.drew.drew.alloc (.cells cs e)).heap[w.heap.size]? =some (.cells cs e (0,0)):=by
  show (w.heap.push _)[w.heap.size]? =_
  simp
 have hold: ∀b,b<w.heap.size->(w.drew.drew.alloc (.cells cs e)).heap[b]? =w.heap[b]? :=fun b hb=>by
  show (w.heap.push _)[b]? =_
  rw [Array.getElem?_push,if_neg (Nat.ne_of_lt hb)]
 refine .inr ⟨.slice (some ⟨w.heap.size,0,none⟩) n cs.size,w.drew.drew.alloc (.cells cs e), ?_,fun p=>if p=0 then some w.heap.size else none,fun b=>T b\/b=w.heap.size,{
  names:=fun p b hp=>by rw [hρ] at hp;cases hp
  only:=fun p b hp=>by
   split at hp
   ·subst p;exact Nat.zero_lt_one
   ·cases hp
  len:=Nat.zero_le _
  val:=⟨w.heap.size,cs.size,by simp,by simp,hle,by omega,cs,e,(0,0),hnew,by omega⟩
  store:=fun p sb hp=> ?_
  fresh:=fun p b _ hp=> ?_
  inj:=fun p q b _ _ hp hq=> ?_
  dirty:=fun _ h=>by cases h
  grow:=⟨by rw [hsz];omega,fun b hb _=>hold b hb,fun b vs e f hb=>⟨vs,f,by rw [hold b (Array.getElem?_eq_some_iff.1 hb).1];exact hb,rfl⟩,rfl,rfl,rfl⟩
  tback:=fun b hb hT=>hT.resolve_right (by omega)
  below:=fun p b hp=> ?_
  tkeep:=fun _ _ h=> .inl (.inl h)}⟩
 ·rw [run_callFunc_extern hf hname hb hn he,hrun]
  rfl
 ·cases p with
  |succ p=>simp at hp
  |zero=>
   simp only [List.getElem?_cons_zero,Option.some.injEq] at hp
   subst hp
   exact ⟨w.heap.size,by simp,.inr rfl,cs,hnew,by omega,fun i hi=>by
    have hlen:((cs.toList.drop (i*1)).take 1).length=1:=by
     rw [List.length_take,List.length_drop,Array.length_toList];omega
    obtain ⟨x,hx⟩:=List.length_eq_one_iff.1 hlen
    rw [hx]
    exact ⟨x,[],rfl,trivial,rfl⟩⟩
 ·split at hp
  ·cases hp;exact .inl (Nat.le_refl _)
  ·cases hp
 ·split at hp
  ·split at hq
   ·subst p;subst q;rfl
   ·cases hq
  ·cases hp
 ·split at hp
  ·cases hp;rw [hsz];omega
  ·cases hp
end Go.Se
namespace Go.Proofs.YtghnfjfkjhbgdaaGreatDoor
open Go.Se
set_option maxRecDepth 100000
theorem ZL(xs:List SV)(σ:List (Option SB)):Sat Tryz.prog 153 xs σ (one aBS xs σ):=
 aBD Tryz.func153 (by kernel_rfl) (by kernel_rfl) (by kernel_rfl) (by kernel_rfl) xs σ
theorem Z4 :Tryz.prog.underlying 47=some (.slice 5):=by kernel_rfl
theorem aGd(n:Nat)(h:n<=1099511627776):aD Tryz.prog 199 [.int .i64 n] [] (.own 0 0 1 n) [some (.row 5 1 n fun _=>[.junk])] []:=
 D1 Tryz.func199 (by kernel_rfl) (by kernel_rfl) (by kernel_rfl) (ps:= #[3]) (t:=47) (by kernel_rfl) Z4 n h
def cNz :List SV->List (Option SB)->KC->Prop
 | [.int .i64 n],[],K=> ∃m:Nat,(n=(m:Int)/\m<=1099511627776)/\K (.own 0 0 1 m) [some (.row 5 1 m fun _=>[.junk])] []
 |_,_,_=>False
theorem aD8(xs:List SV)(σ:List (Option SB)):Sat Tryz.prog 199 xs σ (cNz xs σ):=by
 intro K hK
 unfold cNz at hK
 split at hK
 case h_2=>exact hK.elim
 obtain ⟨m,⟨rfl,h⟩,hK⟩:=hK
 exact ⟨_,_,_,hK,aGd m h⟩
noncomputable def n1 :bU Tryz.prog:=((y8).add 153 (one aBS) ZL).add 199 cNz aD8
abbrev sbT :TypeId:=49
theorem aE2(s:ByteArray)(K:KC):run n1 3 60 [.ptr 0 0,.str s] [some (.cells sbT [.nilp,.nils])] K=
 ((∀(i:Nat),i<s.size->(AV s i).length=1/\(AV s i).all aV=true)/\(Br (true&&(decide (s.size*1<=1099511627776)&&decide (s.size<9223372036854775808))) (Br (decide (0<s.size)) (K (SV.tup [SV.int .i64 (↑s.size:Int),SV.nilI]) [some (SB.cells 49 [SV.ptr 0 0,SV.own 1 0 1 s.size]),some (SB.row 5 1 s.size (AV s))] [0]) (K (SV.tup [SV.int .i64 (↑s.size:Int),SV.nilI]) [some (SB.cells 49 [SV.ptr 0 0,SV.nils])] [0])) (False))):=by kernel_rfl
theorem aD3(s:ByteArray)(n:Nat)(g:Nat->List SV)(K:KC):run n1 3 60 [.ptr 0 0,.str s] [some (.cells sbT [.ptr 0 0,.own 1 0 1 n]),some (.row 5 1 n g)] K=
 ((∀(i:Nat),i<s.size->(AV s i).length=1/\(AV s i).all aV=true)/\(Br (true&&decide (n=n)&&(decide ((n+s.size)*1<=1099511627776)&&decide (n+s.size<9223372036854775808))) (K (SV.tup [SV.int .i64 (↑s.size:Int),SV.nilI]) [some (SB.cells 49 [SV.ptr 0 0,SV.own 2 0 1 (n+s.size)]),none,some (SB.row 5 1 (n+s.size) (oH n g (AV s)))] [0,1]) (False))):=by kernel_rfl
end Go.Proofs.YtghnfjfkjhbgdaaGreatDoor
namespace Go.Se
theorem aDI {P:Program} {k:FuncId} {xs xs':List SV} {sb:SB} {v:SV}
  (hx: ∀(ρ:aG) (T:Nat->Prop) (w:World) (b:Nat) (l:List Value),ρ 0=some b->eI ρ T w sb b->aP ρ T w xs l->aP (fun _=>none) (fun c=>T c/\c≠b) w xs' l) (h:aD P k xs' [] v [] []):aD P k xs [some sb] v [none] [0]:=by
 intro ρ T w vals h1 h2 h3 h4
 obtain ⟨_,b,e0,e1,e2,e3⟩:=h2 0 (by simp)
 simp only [List.getElem?_cons_zero,Option.some.injEq] at e0
 subst e0
 refine (h (fun _=>none) (fun c=>T c/\c≠b) w vals (hx ρ T w b _ e1 e3 h1) (fun p hp=>absurd hp (Nat.not_lt_zero _)) (fun _ _ _ h=>by cases h)
  ⟨fun _ _ h=>(by cases h),fun g v hg=>⟨fun ht=>(h4.inv g v hg).1 ht.1,(h4.inv g v hg).2⟩⟩).mono fun x w' ⟨ρ',T',hd⟩=> ?_
 have hp0: ∀p c,ρ p=some c->p=0:=fun p c hp=>by have:=(h4.low p c hp).1;simp at this;exact this
 refine ⟨ρ,T',{
  names:=fun _ _ h=>h
  only:=fun p c hp=>by rw [hp0 p c hp];simp
  len:=Nat.le_refl _
  val:=fZ (fun p c hp=>absurd (hd.only p c hp) (Nat.not_lt_zero _)) (fun _ _ h=>h) (aX.refl T' w') _ _ hd.val
  store:=fun p s hp=>by
   match p,hp with
   |0,hp=>cases hp
  fresh:=fun p c hp hb=>by
   have:=hp0 p c hb;subst this;simp at hp
  inj:=fun p q c hp _ hb=>by
   have:=hp0 p c hb;subst this;simp at hp
  dirty:=fun p hp=>by simp at hp|-;omega
  grow:=hd.grow.mono fun c _ ⟨p,hp,_⟩=>by cases hp
  tback:=fun c hc ht=>(hd.tback c hc ht).1
  below:=fun p c hp=>Nat.lt_of_lt_of_le (h4.low p c hp).2 hd.grow.size
  tkeep:=fun c hc ht=>by
   by_cases e:c=b
   ·subst e;exact .inr ⟨0,by simp,rfl,e1⟩
   ·rcases hd.tkeep c hc ⟨ht,e⟩ with h|⟨q,hq,_⟩
    ·exact .inl h
    ·cases hq}⟩
theorem VM{ρ:aG}{T:Nat->Prop}{w:World}{b n n' st e:Nat}{g g':Nat->List SV}{v:Value}(hn:n<=n')(hg: ∀i,i<n->g' i=g i/\(g i).length=st)(h1:ρ 0=some b)(h2:eI ρ T w (.row e st n' g') b)(hv:rel ρ T w (.own 0 0 st n) v):
  rel (fun _=>none) (fun c=>T c/\c≠b) w (.ro n st g) v:=by
 obtain ⟨b',c,r1,rfl,r2,r3,_⟩:=hv
 rw [h1] at r1;cases r1
 obtain ⟨vs,r6,r7,r8⟩:=h2
 refine ⟨some ⟨b,0*st,none⟩,c,rfl,⟨r2,by omega,fun he=>by cases he⟩,fun _=>⟨b,0,by rw [Nat.zero_mul],(Array.getElem?_eq_some_iff.1 r6).1,fun ht=>ht.2 rfl,fun i hi=> ?_⟩⟩
 obtain ⟨e1,e2⟩:=hg i hi
 rw [<- e1]
 have hr:=aR (T':=fun c=>T c/\c≠b) (fun _ _ h=>h) (fun _ _ h=>h.1) (aX.refl T w) _ _ (r8 i (by omega))
 rw [Nat.zero_add]
 refine dH hr fun j u hj=> ?_
 rw [dO r6]
 rw [List.getElem?_take] at hj
 split at hj
 ·rw [List.getElem?_drop] at hj
  simpa using hj
 ·cases hj
theorem zM{P:Program}{k:FuncId}{s:ByteArray}{n n' st e:Nat}{g g':Nat->List SV}{v:SV}(hn:n<=n')(hg: ∀i,i<n->g' i=g i/\(g i).length=st)(h:aD P k [.ro n st g,.str s] [] v [] []):
  aD P k [.own 0 0 st n,.str s] [some (.row e st n' g')] v [none] [0]:=
 aDI (fun ρ T w b l h1 h2 h3=>by
  obtain ⟨x,r,rfl,hx,y,r9,rfl,y1,y2⟩:=h3
  exact ⟨_,_,rfl,VM hn hg h1 h2 hx,y,r9,rfl,y1,y2⟩) h
end Go.Se
namespace Go.Se
open Go.Proofs Go.Shelf Go.RowKit
variable {P:Program}
def b8(n:Int):UInt8:=UInt8.ofNat n.toNat
theorem pQ(l:List Int):(bytesOf l).data.toList=l.map b8:=by unfold bytesOf;simp [b8]
theorem FX : ∀r:List (List Int),Lib.joinTail [32] (r.map fun x=>(bytesOf x).data.toList)=(iB r).map b8
 | []=>rfl
 |w::r=>by
  have ih:=FX r
  show ([32]++(bytesOf w).data.toList)++Lib.joinTail [32] (r.map fun x=>(bytesOf x).data.toList)=(32::(w++iB r)).map b8
  rw [ih,pQ,List.map_cons,List.map_append];rfl
theorem RV(p:List (List Int)):Lib.join ((p.map bytesOf).map (·.data.toList)) (⟨#[32]⟩:ByteArray).data.toList=(dF p).map b8:=by
 rw [List.map_map]
 cases p with
 |nil=>rfl
 |cons w r=>
  show Lib.join ((bytesOf w).data.toList::r.map fun x=>(bytesOf x).data.toList) [32]=(w++iB r).map b8
  rw [Lib.join_cons,FX,pQ,List.map_append]
theorem OV(p:List (List Int)):(⟨(Lib.join ((p.map bytesOf).map (·.data.toList)) (⟨#[32]⟩:ByteArray).data.toList).toArray⟩:ByteArray)=bytesOf (dF p):=by
 rw [RV]
 apply ByteArray.ext
 apply Array.ext'
 rw [pQ]
theorem yG{R:Ren}(L:Lays.n156 P R)(X:Builder.Extra P R)(p:List (List Int))(h1:(dF p).length<=1099511627776)(h2:p.length<=1099511627776):
  aD P (R.f 156) [.ro p.length 1 (aH p),.str ⟨#[32]⟩] [] (.str (bytesOf (dF p))) [] []:=by
 intro ρ T w vals hv _ _ h4
 obtain ⟨v1,r1,e1,⟨a,c,rfl,⟨hc,_,ha⟩,hrow⟩,v2,r2,e2,⟨rfl,hs⟩,e3⟩:=hv
 have e3:r2=[]:=e3
 subst e3;subst e2
 obtain rfl:vals= #[.slice a p.length c,.string ⟨#[32]⟩]:=by apply Array.ext';exact e1
 have hρ: ∀q,ρ q=none:=fun q=>by
  cases hq:ρ q with
  |none=>rfl
  |some b=>exact absurd (h4 q b hq).1 (Nat.not_lt_zero _)
 have hsz:(bytesOf (dF p)).size<9223372036854775808:=by rw [aO];omega
 have key:Calls P (R.f 156) #[.slice a p.length c,.string ⟨#[32]⟩] w fun e w'=>e= .returned (.string (bytesOf (dF p)))/\Below w.heap.size w w':=by
  by_cases hp:p.length=0
  ·have hp0:p=[]:=List.eq_nil_of_length_eq_zero hp
   subst hp0
   refine (Any.strings_Join_none L X a c ⟨#[32]⟩ w).mono fun e w' ⟨h,h'⟩=>⟨h, ?_⟩
   rw [h'];exact Below.refl _ _
  ·obtain ⟨b,off,rfl,hb,_,hat⟩:=hrow (by omega)
   have hcells: ∀(j:Nat) x,(p.map bytesOf)[j]? =some x->w.cell? ⟨b,off+j,none⟩=some (.string x):=fun j x hx=>by
    rw [List.getElem?_map] at hx
    cases hj:p[j]? with
    |none=>rw [hj] at hx;cases hx
    |some l=>
     rw [hj] at hx
     cases hx
     have hlt:j<p.length:=(List.getElem?_eq_some_iff.1 hj).1
     obtain ⟨⟨v,k1,k2,_⟩,_⟩:=hat j hlt
     rw [Nat.mul_one] at k1
     rw [k1,k2]
     have:aH p j=[.str (bytesOf l)]:=by
      show jJ (p.getD j [])=_
      rw [List.getD_eq_getElem?_getD,hj];rfl
     show some (Value.string (bytesOf (p.getD j [])))=_
     rw [List.getD_eq_getElem?_getD,hj];rfl
   have hl:(p.map bytesOf).length=p.length:=by simp
   have:=Any.strings_Join L X b off c (p.map bytesOf) ⟨#[32]⟩ w hcells hb (by omega) (by omega) (by rw [RV,List.length_map];omega)
   rw [hl,OV] at this
   exact this
 refine .inl ⟨_,L.f156,rfl,rfl,key.mono fun e w' ⟨he,hB⟩=>⟨_,he,ρ,T,{
  names:=fun _ _ h=>h
  only:=fun q b h=>by rw [hρ] at h;cases h
  len:=Nat.le_refl _
  val:=⟨rfl,hsz⟩
  store:=fun q sb h=>by simp at h
  fresh:=fun q b _ h=>by rw [hρ] at h;cases h
  inj:=fun q q' b _ _ h=>by rw [hρ] at h;cases h
  dirty:=fun _ h=>by cases h
  grow:=⟨hB.size,fun b hb _=>hB.block b hb,fun b vs e f hb=>⟨vs,f,by rw [hB.block b (Array.getElem?_eq_some_iff.1 hb).1];exact hb,rfl⟩,hB.os,hB.output,hB.tape⟩
  tback:=fun _ _ h=>h
  below:=fun q b h=>by rw [hρ] at h;cases h
  tkeep:=fun _ _ h=> .inl h}⟩⟩
end Go.Se
namespace Go.Se
open Go.Proofs Go.Shelf Go.RowKit
variable {P:Program}
theorem sG {R:Ren} (L:Lays.n156 P R) (X:Builder.Extra P R) (p:List (List Int)) (h1:(dF p).length<=1099511627776) (h2:p.length<=1099511627776) {e n':Nat} {g:Nat->List SV} (hn:p.length<=n')
  (hg: ∀j (h:j<p.length),g j=jJ p[j]):aD P (R.f 156) [.own 0 0 1 p.length,.str ⟨#[32]⟩] [some (.row e 1 n' g)] (.str (bytesOf (dF p))) [none] [0]:=
 zM hn (fun i hi=>⟨by rw [hg i hi];exact (dM (f:=jJ) (d:=[]) hi).symm,by show (aY jJ [] p i).length=1;rw [dM hi];rfl⟩) (yG L X p h1 h2)
end Go.Se
namespace Go.Se
open Go.Proofs Go.Shelf Go.RowKit
variable {P:Program}
theorem N8 {k:FuncId} {xs:List SV} {sb sb':SB} {v:SV} {σ':List (Option SB)} {d:List Nat} (h: ∀(ρ:aG) (T:Nat->Prop) (w:World) (b:Nat),eI ρ T w sb b->eI ρ T w sb' b)
  (hc:aD P k xs [some sb'] v σ' d):aD P k xs [some sb] v σ' d:=fun ρ T w vals h1 h2 h3 h4=>
 (hc ρ T w vals h1 (fun p hp=>by
  obtain ⟨s,b,e1,e2,e3,e4⟩:=h2 p hp
  obtain rfl:p=0:=by simp at hp;exact hp
  simp only [List.getElem?_cons_zero,Option.some.injEq] at e1
  subst e1
  exact ⟨sb',b,rfl,e2,e3,h _ _ _ _ e4⟩) h3 h4).mono fun x w' ⟨ρ',T',hd⟩=>⟨ρ',T',⟨hd.names,hd.only,hd.len,hd.val,hd.store,hd.fresh,hd.inj,hd.dirty,hd.grow,hd.tback,hd.below,hd.tkeep⟩⟩
def uD(p:List (List Int)):List SV:=p.map fun x=> .str (bytesOf x)
theorem xJ : ∀p:List (List Int),ids.idsL (uD p)=[]
 | []=>rfl
 |_::r=>xJ r
theorem EV(p:List (List Int))(j:Nat)(h:j<p.length):cut (uD p) (j*1) 1=jJ p[j]:=by
 unfold cut uD
 rw [Nat.mul_one,List.drop_eq_getElem_cons (by simpa using h)]
 simp [jJ]
theorem CU{R:Ren}(L:Lays.n156 P R)(X:Builder.Extra P R)(p:List (List Int))(h1:(dF p).length<=1099511627776)(h2:p.length<=1099511627776){e:Nat}:
  aD P (R.f 156) [.own 0 0 1 p.length,.str ⟨#[32]⟩] [some (.lst e (uD p))] (.str (bytesOf (dF p))) [none] [0]:=
 N8 (fun ρ T w b h=>oV (st:=1) (len:=p.length) (xJ p) (by unfold uD;simp) h) (sG L X p h1 h2 (Nat.le_refl _) fun j hj=>EV p j hj)
def d7(g:Nat->List SV)(p:List (List Int)):Prop:= ∀j (h:j<p.length),g j=jJ p[j]
end Go.Se
namespace Go.Proofs.YtghnfjfkjhbgdaaGreatDoor
open Go.Se Go.Shelf
set_option maxRecDepth 100000
def jR :Ren:=⟨fun
 |156=>61
 |165=>106
 |166=>60
 |169=>21
 |240=>105
 |241=>154
 |276=>153
 |277=>199
 |n=>n,fun
 |0=>0
 |3=>3
 |4=>4
 |5=>5
 |9=>9
 |20=>20
 |31=>54
 |37=>47
 |70=>46
 |72=>49
 |75=>94
 |76=>108
 |80=>60
 |127=>115
 |164=>144
 |n=>n,fun n=>n⟩
theorem jL :Go.Proofs.Lays.n156 Tryz.prog jR where
 mixed:=by kernel_rfl
 f156:=by kernel_rfl
 f165:=by kernel_rfl
 f166:=by kernel_rfl
 f169:=by kernel_rfl
 f240:=by kernel_rfl
 f241:=by kernel_rfl
 f276:=by kernel_rfl
 f277:=by kernel_rfl
 t0:=by kernel_rfl
 a0:=fun _=>by kernel_rfl
 z0:=fun _=>by kernel_rfl
 v0:=fun _=>by kernel_rfl
 t3:=by kernel_rfl
 a3:=fun _=>by kernel_rfl
 z3:=fun _=>by kernel_rfl
 v3:=fun _=>by kernel_rfl
 t4:=by kernel_rfl
 a4:=fun _=>by kernel_rfl
 z4:=fun _=>by kernel_rfl
 v4:=fun _=>by kernel_rfl
 t9:=by kernel_rfl
 a9:=fun _=>by kernel_rfl
 z9:=fun _=>by kernel_rfl
 v9:=fun _=>by kernel_rfl
 t20:=by kernel_rfl
 a20:=fun _=>by kernel_rfl
 z20:=fun _=>by kernel_rfl
 v20:=fun _=>by kernel_rfl
 t31:=by kernel_rfl
 a31:=fun _=>by kernel_rfl
 z31:=fun _=>by kernel_rfl
 v31:=fun _=>by kernel_rfl
 t37:=by kernel_rfl
 a37:=fun _=>by kernel_rfl
 z37:=fun _=>by kernel_rfl
 v37:=fun _=>by kernel_rfl
 t70:=by kernel_rfl
 a70:=fun _=>by kernel_rfl
 z70:=fun _=>by kernel_rfl
 v70:=fun _=>by kernel_rfl
 t72:=by kernel_rfl
 a72:=fun _=>by kernel_rfl
 z72:=fun _=>by kernel_rfl
 v72:=fun _=>by kernel_rfl
 t75:=by kernel_rfl
 a75:=fun _=>by kernel_rfl
 z75:=fun _=>by kernel_rfl
 v75:=fun _=>by kernel_rfl
 t76:=by kernel_rfl
 a76:=fun _=>by kernel_rfl
 z76:=fun _=>by kernel_rfl
 v76:=fun _=>by kernel_rfl
 t127:=by kernel_rfl
 a127:=fun _=>by kernel_rfl
 z127:=fun _=>by kernel_rfl
 v127:=fun _=>by kernel_rfl
 t164:=by kernel_rfl
 a164:=fun _=>by kernel_rfl
 z164:=fun _=>by kernel_rfl
 v164:=fun _=>by kernel_rfl
theorem jX :Go.Proofs.Builder.Extra Tryz.prog jR where
 sizeBuilder:=by kernel_rfl
 liesBuilder:=by kernel_rfl
 t5:=by kernel_rfl
 a5:=fun _=>by kernel_rfl
 z5:=fun _=>by kernel_rfl
 v5:=fun _=>by kernel_rfl
 infoByte:=by kernel_rfl
 cellsByte:=by kernel_rfl
 sizeByte:=by kernel_rfl
 neB5:=by decide
def cJn :List SV->List (Option SB)->KC->Prop
 | [.ro n 1 g,.str s],[],K=> ∃p:List (List Int),((n=p.length/\g=aH p)/\s=⟨#[32]⟩/\(dF p).length<=1099511627776/\n<=1099511627776)/\K (.str (bytesOf (dF p))) [] []
 | [.own 0 0 1 n,.str s],[some (.row 9 1 n' g)],K=> ∃p:List (List Int),((n=p.length/\n'=n/\ ∀j (h:j<p.length),g j=jJ p[j])/\s=⟨#[32]⟩/\(dF p).length<=1099511627776/\n<=1099511627776)/\K (.str (bytesOf (dF p))) [none] [0]
 | [.own 0 0 1 n,.str s],[some (.lst 9 cs)],K=> ∃p:List (List Int),((n=p.length/\cs=uD p)/\s=⟨#[32]⟩/\(dF p).length<=1099511627776/\n<=1099511627776)/\K (.str (bytesOf (dF p))) [none] [0]
 |_,_,_=>False
theorem aD1(xs:List SV)(σ:List (Option SB)):Sat Tryz.prog 61 xs σ (cJn xs σ):=by
 intro K hK
 unfold cJn at hK
 split at hK
 case h_4=>exact hK.elim
 ·obtain ⟨p,⟨⟨rfl,rfl⟩,rfl,h1,h2⟩,hK⟩:=hK
  exact ⟨_,_,_,hK,yG jL jX p h1 h2⟩
 ·obtain ⟨p,⟨⟨rfl,rfl,hg⟩,rfl,h1,h2⟩,hK⟩:=hK
  exact ⟨_,_,_,hK,sG jL jX p h1 h2 (Nat.le_refl _) hg⟩
 ·obtain ⟨p,⟨⟨rfl,rfl⟩,rfl,h1,h2⟩,hK⟩:=hK
  exact ⟨_,_,_,hK,CU jL jX p h1 h2⟩
end Go.Proofs.YtghnfjfkjhbgdaaGreatDoor
