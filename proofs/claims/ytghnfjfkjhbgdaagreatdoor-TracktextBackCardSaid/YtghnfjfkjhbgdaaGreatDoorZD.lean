import Derived.Test.YtghnfjfkjhbgdaaGreatDoorZC
import Derived.WalkKit
import Derived.LaidEql
import Derived.Stop.Asserts
import Derived.RowKitTokens
import GoSem.Extern.AbiNoEscape
import Derived.Lib.MakeNoZero
import Derived.Shelf.Strings.OnBuilder
namespace Go.Proofs.YtghnfjfkjhbgdaaGreatDoor
open Go.Se
set_option maxRecDepth 100000
noncomputable def z1 :bT Tryz.prog:=r1
theorem XB(s:ByteArray)(K:KC):run b2 3 85 [.str s] [] K=
 (Br (!kL (aA (bytesOf (cS (aA s)))) 18) (K (SV.tup [SV.int .i64 0,SV.int .i64 24]) [] []) (Br (kC (aA s)) (K (SV.tup [SV.int .i64 (IntKind.i64.wrap (0 - nG (aA (bytesOf (cS (aA s)))) 18)),SV.int .i64 0]) [] []) (K (SV.tup [SV.int .i64 (nG (aA (bytesOf (cS (aA s)))) 18),SV.int .i64 0]) [] []))):=by kernel_rfl
theorem gF(s:ByteArray):aD Tryz.prog 85 [.str s] [] (.tup [.int .i64 (e9 (aA s)),.int .i64 (iM (aA s))]) [] []:=by
 refine aV b2 3 fun _ _ K hK=> ?_
 have hmb:=kV (cQ s)
 rw [XB,cG hmb]
 unfold e9 iM at hK
 refine Br.of (fun c=> ?_) fun c=> ?_
 ·rw [Bool.not_eq_true'] at c;rw [c] at hK;exact hK
 ·rw [Bool.not_eq_false'] at c
  rw [c] at hK
  obtain ⟨_,h0,h1⟩:=C9 hmb (by decide) c
  have:=JV (show (cS (aA s)).length<=18 by have:=s7 c;omega)
  refine Br.of (fun e=> ?_) fun e=> ?_
  ·rw [e] at hK
   rw [show IntKind.i64.wrap (0 - nG (cS (aA s)) 18)= -nG (cS (aA s)) 18 by rw [gY];omega]
   exact hK
  ·rw [e] at hK;exact hK
theorem i2(s:ByteArray):aD Tryz.prog 129 [.str s] [] (.tup [.int .i64 (sW (aA s)),.int .i64 (s5 (aA s))]) [] []:=by
 refine aV b2 3 fun _ _ K hK=> ?_
 rw [OC]
 exact WG hK
end Go.Proofs.YtghnfjfkjhbgdaaGreatDoor
namespace Go.Proofs.YtghnfjfkjhbgdaaGreatDoor
open Go.Se
set_option maxRecDepth 100000
def LY :List SV->List (Option SB)->Out
 | [.str s],[]=>some (.tup [.int .i64 (sW (aA s)),.int .i64 (s5 (aA s))],[],[])
 |_,_=>none
def EX :List SV->List (Option SB)->Out
 | [.str s],[]=>some (.tup [.int .i64 (e9 (aA s)),.int .i64 (iM (aA s))],[],[])
 |_,_=>none
noncomputable def y4 :bT Tryz.prog:=((y3).add 129 (one LY) (bD fun xs σ v σ' d h=>by
  unfold LY at h;split at h<;>cases h;first|exact i2|exact i2 _|exact i2 _ _|exact i2 _ _ _|exact i2 _ _ _ _|exact i2 _ _ _ _ _|exact i2 _ _ _ _ _ _|exact i2 _ _ _ _ _ _ _|exact i2 _ _ _ _ _ _ _ _|exact i2 _ _ _ _ _ _ _ _ _|exact i2 _ _ _ _ _ _ _ _ _ _|exact i2 _ _ _ _ _ _ _ _ _ _ _)).add 85 (one EX) (bD fun xs σ v σ' d h=>by
  unfold EX at h;split at h<;>cases h;first|exact gF|exact gF _|exact gF _ _|exact gF _ _ _|exact gF _ _ _ _|exact gF _ _ _ _ _|exact gF _ _ _ _ _ _|exact gF _ _ _ _ _ _ _|exact gF _ _ _ _ _ _ _ _|exact gF _ _ _ _ _ _ _ _ _|exact gF _ _ _ _ _ _ _ _ _ _|exact gF _ _ _ _ _ _ _ _ _ _ _)
end Go.Proofs.YtghnfjfkjhbgdaaGreatDoor
namespace Go.Proofs.YtghnfjfkjhbgdaaGreatDoor
open Go.Se
set_option maxRecDepth 100000
abbrev bkT :TypeId:=130
theorem aDB(n:Nat)(g:Nat->List SV)(K:KC):run y4 2 130 [.ro n 1 g] [] K=
 (Br (decide (0<n)) ((∀(i:Nat),i<n->(g i).length=1/\(g i).all aW=true)/\(Br (true&&(decide (n*16<=1099511627776)&&decide (n<9223372036854775808))) (Br (decide (0<n)) (K (SV.own 0 0 1 n) [some (SB.row 9 1 n g)] []) (K (SV.arr 0 0 0 0) [some (SB.cells 9 [])] [])) (False))) (False)):=by kernel_rfl
theorem aF3(K:KC):run y4 2 130 [.nils] [] K=
 (K SV.nils [] []):=by kernel_rfl
theorem aFZ(K:KC):run y4 2 130 [.emp] [] K=
 (K (SV.arr 0 0 0 0) [some (SB.cells 9 [])] []):=by kernel_rfl
theorem VY(p:List (List Int))(hn:p.length<=1048577):aD Tryz.prog 130 [.ro p.length 1 (aH p)] [] (.ro p.length 1 (aH p)) [] []:=
 qU (fun i _=>rfl) (fun h0=>aV y4 2 fun _ _ K hK=>by
   rw [aDB]
   exact If.mk (decide_eq_true h0) ⟨fun i _=>⟨rfl,rfl⟩,If.mk (by simp only [Bool.and_eq_true,decide_eq_true_eq,Bool.true_and];omega) (Br.of (fun _=>hK) fun c=>absurd h0 (of_decide_eq_false c))⟩)
  (aV y4 2 fun _ _ K hK=>by rw [aF3];exact hK) (aV y4 2 fun _ _ K hK=>by rw [aFZ];exact hK)
def QO :List SV->List (Option SB)->KC->Prop
 |xs,[],K=> ∃p:List (List Int),(xs=[.ro p.length 1 (aH p)]/\p.length<=1048577)/\K (.ro p.length 1 (aH p)) [] []
 |_,_::_,_=>False
theorem PW(xs:List SV)(σ:List (Option SB)):Sat Tryz.prog 130 xs σ (QO xs σ):=by
 intro K hK
 cases σ with
 |nil=>obtain ⟨p,⟨rfl,hp⟩,hK⟩:=hK;exact ⟨_,_,_,hK,VY p hp⟩
 |cons a l=>exact hK.elim
noncomputable def y5 :bT Tryz.prog:=(y4).add 130 QO PW
theorem aCr(b:Bk)(all lo hi:Int)(w:ByteArray)(K:KC):run y5 3 81 [.ptr 0 0,.str w,.int .i64 lo,.int .i64 hi] [some (.cells bkT (bkC all b))] K=
 (Br (!b.err==0) (K SV.nils [some (SB.cells 130 [SV.ro b.q.length 2 (qG b.q),SV.int .i64 all,SV.int .i64 b.last,SV.int .i64 b.err,SV.int .i64 b.place])] []) (Br ((↑b.q.length:Int)==0) (Br (b.err==0) (K SV.nils [some (SB.cells 130 [SV.ro b.q.length 2 (qG b.q),SV.int .i64 all,SV.int .i64 b.last,SV.int .i64 20,SV.int .i64 (IntKind.i64.wrap (all+1))])] [0]) (K SV.nils [some (SB.cells 130 [SV.ro b.q.length 2 (qG b.q),SV.int .i64 all,SV.int .i64 b.last,SV.int .i64 b.err,SV.int .i64 b.place])] [])) (Br (true&&decide (0<(↑b.q.length:Int))) (Br (true&&decide (0<(↑(b.q.getD (Int.toNat 0) (0,[])).snd.length:Int))) (Br (!bytesOf ((b.q.getD (Int.toNat 0) (0,[])).snd.getD (Int.toNat 0) [])==w) (Br (b.err==0) (K SV.nils [some (SB.cells 130 [SV.ro b.q.length 2 (qG b.q),SV.int .i64 all,SV.int .i64 b.last,SV.int .i64 21,SV.int .i64 (b.q.getD (Int.toNat 0) (0,[])).fst])] [0]) (K SV.nils [some (SB.cells 130 [SV.ro b.q.length 2 (qG b.q),SV.int .i64 all,SV.int .i64 b.last,SV.int .i64 b.err,SV.int .i64 b.place])] [])) (Br (decide (IntKind.i64.wrap ((↑(b.q.getD (Int.toNat 0) (0,[])).snd.length:Int) - 1)<lo)) (Br (b.err==0) (K SV.nils [some (SB.cells 130 [SV.ro b.q.length 2 (qG b.q),SV.int .i64 all,SV.int .i64 b.last,SV.int .i64 22,SV.int .i64 (b.q.getD (Int.toNat 0) (0,[])).fst])] [0]) (K SV.nils [some (SB.cells 130 [SV.ro b.q.length 2 (qG b.q),SV.int .i64 all,SV.int .i64 b.last,SV.int .i64 b.err,SV.int .i64 b.place])] [])) (Br (decide (IntKind.i64.wrap ((↑(b.q.getD (Int.toNat 0) (0,[])).snd.length:Int) - 1)>hi)) (Br (b.err==0) (K SV.nils [some (SB.cells 130 [SV.ro b.q.length 2 (qG b.q),SV.int .i64 all,SV.int .i64 b.last,SV.int .i64 22,SV.int .i64 (b.q.getD (Int.toNat 0) (0,[])).fst])] [0]) (K SV.nils [some (SB.cells 130 [SV.ro b.q.length 2 (qG b.q),SV.int .i64 all,SV.int .i64 b.last,SV.int .i64 b.err,SV.int .i64 b.place])] [])) (Br (true&&(decide (1<=(↑b.q.length:Int))&&decide ((↑b.q.length:Int)<=(↑b.q.length:Int)))) (Br (true&&(decide (1<=(↑(b.q.getD (Int.toNat 0) (0,[])).snd.length:Int))&&decide ((↑(b.q.getD (Int.toNat 0) (0,[])).snd.length:Int)<=(↑(b.q.getD (Int.toNat 0) (0,[])).snd.length:Int)))) (∃(e391:List (List Int)),([SV.ro ((↑(b.q.getD (Int.toNat 0) (0,[])).snd.length:Int).toNat - 1) 1 fun (i:Nat)=>aH (b.q.getD (Int.toNat 0) (0,[])).snd (i+1)]=[SV.ro e391.length 1 (aH e391)]/\e391.length<=1048577)/\(K (SV.ro e391.length 1 (aH e391)) [some (SB.cells 130 [SV.ro ((↑b.q.length:Int).toNat - 1) 2 fun (i:Nat)=>qG b.q (i+1),SV.int .i64 all,SV.int .i64 (b.q.getD (Int.toNat 0) (0,[])).fst,SV.int .i64 b.err,SV.int .i64 b.place])] [0])) (False)) (False))))) (False)) (False)))):=by kernel_rfl
theorem aCW(b:Bk)(all:Int)(w:ByteArray)(K:KC):run y5 3 80 [.ptr 0 0,.str w] [some (.cells bkT (bkC all b))] K=
 (Br (b.err==0) (Br (decide ((↑b.q.length:Int)>0)) (Br (true&&decide (0<(↑b.q.length:Int))) (Br (true&&decide (0<(↑(b.q.getD (Int.toNat 0) (0,[])).snd.length:Int))) (K (SV.bool (bytesOf ((b.q.getD (Int.toNat 0) (0,[])).snd.getD (Int.toNat 0) [])==w)) [some (SB.cells 130 [SV.ro b.q.length 2 (qG b.q),SV.int .i64 all,SV.int .i64 b.last,SV.int .i64 b.err,SV.int .i64 b.place])] []) (False)) (False)) (K (SV.bool false) [some (SB.cells 130 [SV.ro b.q.length 2 (qG b.q),SV.int .i64 all,SV.int .i64 b.last,SV.int .i64 b.err,SV.int .i64 b.place])] [])) (K (SV.bool false) [some (SB.cells 130 [SV.ro b.q.length 2 (qG b.q),SV.int .i64 all,SV.int .i64 b.last,SV.int .i64 b.err,SV.int .i64 b.place])] [])):=by kernel_rfl
theorem aEW(b:Bk)(all:Int)(s:ByteArray)(K:KC):run y5 3 76 [.ptr 0 0,.str s] [some (.cells bkT (bkC all b))] K=
 (Br (!b.err==0) (K (SV.int .i64 0) [some (SB.cells 130 [SV.ro b.q.length 2 (qG b.q),SV.int .i64 all,SV.int .i64 b.last,SV.int .i64 b.err,SV.int .i64 b.place])] []) (Br (b.err==0) (Br (s5 (aA s) !=0) (K (SV.int .i64 (sW (aA s))) [some (SB.cells 130 [SV.ro b.q.length 2 (qG b.q),SV.int .i64 all,SV.int .i64 b.last,SV.int .i64 (s5 (aA s)),SV.int .i64 b.last])] [0]) (K (SV.int .i64 (sW (aA s))) [some (SB.cells 130 [SV.ro b.q.length 2 (qG b.q),SV.int .i64 all,SV.int .i64 b.last,SV.int .i64 b.err,SV.int .i64 b.place])] [])) (K (SV.int .i64 (sW (aA s))) [some (SB.cells 130 [SV.ro b.q.length 2 (qG b.q),SV.int .i64 all,SV.int .i64 b.last,SV.int .i64 b.err,SV.int .i64 b.place])] []))):=by kernel_rfl
theorem aEO(b:Bk)(all lo hi:Int)(s:ByteArray)(K:KC):run y5 3 41 [.ptr 0 0,.str s,.int .i64 lo,.int .i64 hi] [some (.cells bkT (bkC all b))] K=
 (Br (!b.err==0) (K (SV.int .i64 0) [some (SB.cells 130 [SV.ro b.q.length 2 (qG b.q),SV.int .i64 all,SV.int .i64 b.last,SV.int .i64 b.err,SV.int .i64 b.place])] []) (Br (iM (aA s)==0) (Br (decide (e9 (aA s)<lo)) (Br (b.err==0) (K (SV.int .i64 0) [some (SB.cells 130 [SV.ro b.q.length 2 (qG b.q),SV.int .i64 all,SV.int .i64 b.last,SV.int .i64 40,SV.int .i64 b.last])] [0]) (K (SV.int .i64 0) [some (SB.cells 130 [SV.ro b.q.length 2 (qG b.q),SV.int .i64 all,SV.int .i64 b.last,SV.int .i64 b.err,SV.int .i64 b.place])] [])) (Br (decide (e9 (aA s)>hi)) (Br (b.err==0) (K (SV.int .i64 0) [some (SB.cells 130 [SV.ro b.q.length 2 (qG b.q),SV.int .i64 all,SV.int .i64 b.last,SV.int .i64 40,SV.int .i64 b.last])] [0]) (K (SV.int .i64 0) [some (SB.cells 130 [SV.ro b.q.length 2 (qG b.q),SV.int .i64 all,SV.int .i64 b.last,SV.int .i64 b.err,SV.int .i64 b.place])] [])) (Br (b.err==0) (Br (iM (aA s) !=0) (K (SV.int .i64 (e9 (aA s))) [some (SB.cells 130 [SV.ro b.q.length 2 (qG b.q),SV.int .i64 all,SV.int .i64 b.last,SV.int .i64 (iM (aA s)),SV.int .i64 b.last])] [0]) (K (SV.int .i64 (e9 (aA s))) [some (SB.cells 130 [SV.ro b.q.length 2 (qG b.q),SV.int .i64 all,SV.int .i64 b.last,SV.int .i64 b.err,SV.int .i64 b.place])] [])) (K (SV.int .i64 (e9 (aA s))) [some (SB.cells 130 [SV.ro b.q.length 2 (qG b.q),SV.int .i64 all,SV.int .i64 b.last,SV.int .i64 b.err,SV.int .i64 b.place])] [])))) (Br (b.err==0) (Br (iM (aA s) !=0) (K (SV.int .i64 (e9 (aA s))) [some (SB.cells 130 [SV.ro b.q.length 2 (qG b.q),SV.int .i64 all,SV.int .i64 b.last,SV.int .i64 (iM (aA s)),SV.int .i64 b.last])] [0]) (K (SV.int .i64 (e9 (aA s))) [some (SB.cells 130 [SV.ro b.q.length 2 (qG b.q),SV.int .i64 all,SV.int .i64 b.last,SV.int .i64 b.err,SV.int .i64 b.place])] [])) (K (SV.int .i64 (e9 (aA s))) [some (SB.cells 130 [SV.ro b.q.length 2 (qG b.q),SV.int .i64 all,SV.int .i64 b.last,SV.int .i64 b.err,SV.int .i64 b.place])] [])))):=by kernel_rfl
theorem aBz(b:Bk)(all:Int)(s a:ByteArray)(t:TypeId)(K:KC):n9 3 y5 3 83 [.ptr 0 0,.str s,.arr 1 0 1 1] [some (.cells bkT (bkC all b)),some (.cells t [.str a])] K=
 (Br (!b.err==0) (K (SV.int .i64 0) [some (SB.cells 130 [SV.ro b.q.length 2 (qG b.q),SV.int .i64 all,SV.int .i64 b.last,SV.int .i64 b.err,SV.int .i64 b.place]),some (SB.cells t [SV.str a])] []) (Br (s==a) (K (SV.int .i64 0) [some (SB.cells 130 [SV.ro b.q.length 2 (qG b.q),SV.int .i64 all,SV.int .i64 b.last,SV.int .i64 b.err,SV.int .i64 b.place]),some (SB.cells t [SV.str a])] []) (Br (b.err==0) (K (SV.int .i64 0) [some (SB.cells 130 [SV.ro b.q.length 2 (qG b.q),SV.int .i64 all,SV.int .i64 b.last,SV.int .i64 24,SV.int .i64 b.last]),some (SB.cells t [SV.str a])] [0]) (K (SV.int .i64 0) [some (SB.cells 130 [SV.ro b.q.length 2 (qG b.q),SV.int .i64 all,SV.int .i64 b.last,SV.int .i64 b.err,SV.int .i64 b.place]),some (SB.cells t [SV.str a])] [])))):=by kernel_rfl
theorem aCv(b:Bk)(all:Int)(s a c:ByteArray)(t:TypeId)(K:KC):n9 4 y5 3 83 [.ptr 0 0,.str s,.arr 1 0 2 2] [some (.cells bkT (bkC all b)),some (.cells t [.str a,.str c])] K=
 (Br (!b.err==0) (K (SV.int .i64 0) [some (SB.cells 130 [SV.ro b.q.length 2 (qG b.q),SV.int .i64 all,SV.int .i64 b.last,SV.int .i64 b.err,SV.int .i64 b.place]),some (SB.cells t [SV.str a,SV.str c])] []) (Br (s==a) (K (SV.int .i64 0) [some (SB.cells 130 [SV.ro b.q.length 2 (qG b.q),SV.int .i64 all,SV.int .i64 b.last,SV.int .i64 b.err,SV.int .i64 b.place]),some (SB.cells t [SV.str a,SV.str c])] []) (Br (s==c) (K (SV.int .i64 1) [some (SB.cells 130 [SV.ro b.q.length 2 (qG b.q),SV.int .i64 all,SV.int .i64 b.last,SV.int .i64 b.err,SV.int .i64 b.place]),some (SB.cells t [SV.str a,SV.str c])] []) (Br (b.err==0) (K (SV.int .i64 0) [some (SB.cells 130 [SV.ro b.q.length 2 (qG b.q),SV.int .i64 all,SV.int .i64 b.last,SV.int .i64 24,SV.int .i64 b.last]),some (SB.cells t [SV.str a,SV.str c])] [0]) (K (SV.int .i64 0) [some (SB.cells 130 [SV.ro b.q.length 2 (qG b.q),SV.int .i64 all,SV.int .i64 b.last,SV.int .i64 b.err,SV.int .i64 b.place]),some (SB.cells t [SV.str a,SV.str c])] []))))):=by kernel_rfl
theorem aED(b:Bk)(all:Int)(K:KC):run y5 3 82 [.ptr 0 0] [some (.cells bkT (bkC all b))] K=
 (Br (b.err==0) (Br (b.err==0) (K (SV.tup []) [some (SB.cells 130 [SV.ro b.q.length 2 (qG b.q),SV.int .i64 all,SV.int .i64 b.last,SV.int .i64 22,SV.int .i64 b.last])] [0]) (K (SV.tup []) [some (SB.cells 130 [SV.ro b.q.length 2 (qG b.q),SV.int .i64 all,SV.int .i64 b.last,SV.int .i64 b.err,SV.int .i64 b.place])] [])) (K (SV.tup []) [some (SB.cells 130 [SV.ro b.q.length 2 (qG b.q),SV.int .i64 all,SV.int .i64 b.last,SV.int .i64 b.err,SV.int .i64 b.place])] [])):=by kernel_rfl
theorem aDS(b:Bk)(all:Int)(K:KC):run y5 3 42 [.ptr 0 0] [some (.cells bkT (bkC all b))] K=
 (Br (decide ((↑b.q.length:Int)>0)) (Br (true&&decide (0<(↑b.q.length:Int))) (Br (b.err==0) (K (SV.tup [SV.int .i64 23,SV.int .i64 (b.q.getD (Int.toNat 0) (0,[])).fst]) [some (SB.cells 130 [SV.ro b.q.length 2 (qG b.q),SV.int .i64 all,SV.int .i64 b.last,SV.int .i64 23,SV.int .i64 (b.q.getD (Int.toNat 0) (0,[])).fst])] [0]) (K (SV.tup [SV.int .i64 b.err,SV.int .i64 b.place]) [some (SB.cells 130 [SV.ro b.q.length 2 (qG b.q),SV.int .i64 all,SV.int .i64 b.last,SV.int .i64 b.err,SV.int .i64 b.place])] [])) (False)) (K (SV.tup [SV.int .i64 b.err,SV.int .i64 b.place]) [some (SB.cells 130 [SV.ro b.q.length 2 (qG b.q),SV.int .i64 all,SV.int .i64 b.last,SV.int .i64 b.err,SV.int .i64 b.place])] [])):=by kernel_rfl
theorem qK : ∀p:Nat,p∈([]:List Nat)->p∈[0]:=fun _ h=>nomatch h
theorem CV : ∀p:Nat,p∈[0]->p∈[0]:=fun _ h=>h
theorem aAu {b:Bk} {all lo hi:Int} {w:ByteArray} {K:KC} (hb:aK b) (ha:0<=all/\all<=1048577)
  (h1:fV b w lo hi=true-> ∀d',(∀p,p∈d'->p∈[0])->K .nils [some (.cells bkT (bkC all (gJ all b w lo hi)))] d')
  (h2:fV b w lo hi=false-> ∀d',(∀p,p∈d'->p∈[0])->K (.ro (iD b).length 1 (aH (iD b))) [some (.cells bkT (bkC all (gJ all b w lo hi)))] d'):
  run y5 3 81 [.ptr 0 0,.str w,.int .i64 lo,.int .i64 hi] [some (.cells bkT (bkC all b))] K:=by
 rw [aCr]
 refine Br.of (fun c=> ?_) fun c=> ?_
 ·obtain ⟨t1,t2⟩:=aFg (w:=w) (lo:=lo) (hi:=hi) (all:=all) (b:=b) (by simpa using c)
  have:=h1 t1 [] qK
  rw [t2] at this;exact this
 have he:(b.err==0)=true:=by simpa using c
 rw [L9]
 have bad: ∀e a:Int,lZ b w lo hi=e->e≠0->(bif b.q.isEmpty then all+1 else (dA b.q).1)=a-> ∀X:Prop,Br (b.err==0) (K SV.nils [some (SB.cells bkT [SV.ro b.q.length 2 (qG b.q),SV.int .i64 all,SV.int .i64 b.last,SV.int .i64 e,SV.int .i64 a])] [0]) X:=by
  intro e a hT h0 hpl X
  obtain ⟨t1,t2⟩:=aEK (all:=all) he hT h0
  have:=h1 t1 [0] CV
  rw [t2,hpl] at this
  rw [he]
  exact this
 refine Br.of (fun hq=> ?_) fun hq=> ?_
 ·rw [show IntKind.i64.wrap (all+1)=all+1 by rw [gY];omega]
  exact bad 20 (all+1) (by unfold lZ;rw [hq];rfl) (by decide) (by rw [hq];rfl) _
 have hne:b.q≠[]:=fun e=>by rw [e] at hq;cases hq
 obtain ⟨l1,l2⟩:=hb.head hne
 have hql:0<b.q.length:=List.length_pos_iff.2 hne
 have hqall:=hb.all
 refine Br.of (fun _=> ?_) fun f=>absurd f (by simp only [Bool.true_and,decide_eq_false_iff_not];omega)
 show Br (true&&decide (0<(((dA b.q).2.length:Nat):Int))) _ _
 refine Br.of (fun _=> ?_) fun f=>absurd f (by simp only [Bool.true_and,decide_eq_false_iff_not];omega)
 have hpl:(bif b.q.isEmpty then all+1 else (dA b.q).1)=(dA b.q).1:=by rw [hq];rfl
 show Br (!bytesOf ((dA b.q).2.getD 0 [])==w) _ _
 have hE:lZ b w lo hi=bif !(bytesOf ((dA b.q).2.getD 0 [])==w) then 21 else bif decide ((((dA b.q).2.length:Int) - 1)<lo)||decide ((((dA b.q).2.length:Int) - 1)>hi) then 22 else 0:=by unfold lZ;rw [hq];rfl
 refine Br.of (fun c1=>bad 21 _ (by rw [hE,c1];rfl) (by decide) hpl _) fun c1=> ?_
 have hw:IntKind.i64.wrap (((dA b.q).2.length:Int) - 1)=((dA b.q).2.length:Int) - 1:=by rw [gY];omega
 rw [c1] at hE
 show Br (decide (IntKind.i64.wrap (((dA b.q).2.length:Int) - 1)<lo)) _ (Br (decide (IntKind.i64.wrap (((dA b.q).2.length:Int) - 1)>hi)) _ _)
 rw [hw]
 refine Br.of (fun c2=>bad 22 _ (by rw [hE,c2];rfl) (by decide) hpl _) fun c2=>Br.of (fun c3=>bad 22 _ (by rw [hE,c3,Bool.or_true];rfl) (by decide) hpl _) fun c3=> ?_
 refine Br.of (fun _=> ?_) fun f=>absurd f (by simp only [Bool.true_and,Bool.and_eq_false_iff,decide_eq_false_iff_not];omega)
 show Br (true&&(decide (1<=(((dA b.q).2.length:Nat):Int))&&decide ((((dA b.q).2.length:Nat):Int)<=(((dA b.q).2.length:Nat):Int)))) _ _
 refine Br.of (fun _=> ?_) fun f=>absurd f (by simp only [Bool.true_and,Bool.and_eq_false_iff,decide_eq_false_iff_not];omega)
 obtain ⟨t1,t2⟩:=aGn (all:=all) (lo:=lo) (hi:=hi) (w:=w) he (by rw [hE,c2,c3];rfl)
 have:=h2 t1 [0] CV
 rw [t2] at this
 refine ⟨(dA b.q).2.tail,⟨?_,by simp only [List.length_tail];omega⟩, ?_⟩
 ·show [SV.ro (((dA b.q).2.length:Int).toNat - 1) 1 fun i=>aH (dA b.q).2 (i+1)]=_
  rw [Int.toNat_natCast,ON,List.length_tail]
 ·rw [Int.toNat_natCast,aCx]
  unfold bkC at this
  simp only [List.length_tail] at this
  simp only [List.length_tail]
  unfold iD at this
  simp only [List.length_tail] at this
  exact this
theorem YT{b:Bk}{all:Int}{w:ByteArray}{K:KC}(hb:aK b)(hK:K (.bool (fG b w)) [some (.cells bkT (bkC all b))] []):
  run y5 3 80 [.ptr 0 0,.str w] [some (.cells bkT (bkC all b))] K:=by
 rw [aCW]
 unfold fG at hK
 refine Br.of (fun c=> ?_) fun c=>by rw [c] at hK;exact hK
 rw [c] at hK
 refine Br.of (fun hq=> ?_) fun hq=> ?_
 ·have hql:0<b.q.length:=by have:=of_decide_eq_true hq;omega
  have hne:b.q≠[]:=List.length_pos_iff.1 hql
  obtain ⟨l1,l2⟩:=hb.head hne
  rw [show b.q.isEmpty=false by cases hh:b.q with|nil=>exact absurd hh hne|cons=>rfl] at hK
  refine Br.of (fun _=> ?_) fun f=>absurd f (by simp only [Bool.true_and,decide_eq_false_iff_not];omega)
  show Br (true&&decide (0<(((dA b.q).2.length:Nat):Int))) _ _
  exact Br.of (fun _=>hK) fun f=>absurd f (by simp only [Bool.true_and,decide_eq_false_iff_not];omega)
 ·have:b.q.isEmpty=true:=by
   have:=of_decide_eq_false hq
   rw [List.isEmpty_iff_length_eq_zero];omega
  rw [this] at hK;exact hK
theorem aBb{b:Bk}{all:Int}{s:ByteArray}{K:KC}(hK: ∀d',(∀p,p∈d'->p∈[0])->K (.int .i64 (wK b (aA s))) [some (.cells bkT (bkC all (kH b (aA s))))] d'):
  run y5 3 76 [.ptr 0 0,.str s] [some (.cells bkT (bkC all b))] K:=by
 rw [aEW]
 unfold wK kH at hK
 cases c:b.err==0 with
 |false=>rw [c,wF c] at hK;exact hK [] qK
 |true=>
  rw [c] at hK
  refine Br.of (fun e=>by cases e) fun _=>Br.of (fun _=>Br.of (fun d=> ?_) fun d=> ?_) fun e=>by cases e
  ·rw [mX c (by simpa using d)] at hK;exact hK [0] CV
  ·have:s5 (aA s)=0:=by simpa using d
   rw [this,G6] at hK;exact hK [] qK
theorem aCi{b:Bk}{all lo hi:Int}{s:ByteArray}{K:KC}(hK: ∀d',(∀p,p∈d'->p∈[0])->K (.int .i64 (kF b (aA s) lo hi)) [some (.cells bkT (bkC all (iI b (aA s) lo hi)))] d'):
  run y5 3 41 [.ptr 0 0,.str s,.int .i64 lo,.int .i64 hi] [some (.cells bkT (bkC all b))] K:=by
 rw [aEO]
 unfold kF iI at hK
 cases c:b.err==0 with
 |false=>rw [c,wF c] at hK;exact hK [] qK
 |true=>
  rw [c] at hK
  have h24:iM (aA s)≠0->iM (aA s)=24/\e9 (aA s)=0:=fun h=>by
   unfold iM e9 at*
   cases hn:kL (cS (aA s)) 18 with
   |true=>rw [hn] at h;exact absurd rfl h
   |false=>exact ⟨rfl,rfl⟩
  refine Br.of (fun e=>by cases e) fun _=> ?_
  cases w:iM (aA s)==0 with
  |true=>
   have hw0:iM (aA s)=0:=by simpa using w
   refine Br.of (fun _=>Br.of (fun d=>Br.of (fun _=> ?_) fun e=>by cases e) fun d=>Br.of (fun d2=>Br.of (fun _=> ?_) fun e=>by cases e) fun d2=>Br.of (fun _=>Br.of (fun d3=> ?_) fun d3=> ?_) fun e=>by cases e) fun e=>by cases e
   ·have hE:xS (aA s) lo hi=40:=by unfold xS;rw [w,d];rfl
    rw [hE,mX c (by decide)] at hK;exact hK [0] CV
   ·have hE:xS (aA s) lo hi=40:=by unfold xS;rw [w,d2,Bool.or_true];rfl
    rw [hE,mX c (by decide)] at hK;exact hK [0] CV
   ·rw [hw0] at d3;cases d3
   ·have hE:xS (aA s) lo hi=0:=by unfold xS;rw [w,d,d2];rfl
    rw [hE,G6] at hK;exact hK [] qK
  |false=>
   have hw0:=h24 (by simpa using w)
   have hE:xS (aA s) lo hi=24:=by unfold xS;rw [w];rfl
   rw [hE,mX c (by decide)] at hK
   refine Br.of (fun e=>by cases e) fun _=>Br.of (fun _=>Br.of (fun _=> ?_) fun d=> ?_) fun e=>by cases e
   ·rw [hw0.1,hw0.2];exact hK [0] CV
   ·rw [hw0.1] at d;cases d
theorem aCA{b:Bk}{all:Int}{K:KC}(hK: ∀d',(∀p,p∈d'->p∈[0])->K (.tup []) [some (.cells bkT (bkC all (vI b)))] d'):
  run y5 3 82 [.ptr 0 0] [some (.cells bkT (bkC all b))] K:=by
 rw [aED]
 unfold vI at hK
 cases c:b.err==0 with
 |false=>rw [wF c] at hK;exact hK [] qK
 |true=>rw [mX c (by decide)] at hK;exact hK [0] CV
theorem aCb{b:Bk}{all:Int}{K:KC}(hK: ∀d',(∀p,p∈d'->p∈[0])->K (.tup [.int .i64 (G9 b),.int .i64 (J2 b)]) [some (.cells bkT (bkC all (ZO b)))] d'):
  run y5 3 42 [.ptr 0 0] [some (.cells bkT (bkC all b))] K:=by
 rw [aDS]
 unfold G9 J2 ZO at hK
 refine Br.of (fun hq=> ?_) fun hq=> ?_
 ·have hql:0<b.q.length:=by have:=of_decide_eq_true hq;omega
  have hne:b.q.isEmpty=false:=by cases hh:b.q with|nil=>rw [hh] at hql;simp at hql|cons=>rfl
  rw [hne] at hK
  refine Br.of (fun _=> ?_) fun f=>absurd f (by simp only [Bool.true_and,decide_eq_false_iff_not];omega)
  cases c:b.err==0 with
  |false=>
   simp only [cond_false] at hK
   rw [wF c,show (b.err !=0)=true by rw [bne,c];rfl] at hK
   exact hK [] qK
  |true=>
   simp only [cond_false] at hK
   rw [mX c (by decide),show (b.err !=0)=false by rw [bne,c];rfl] at hK
   exact hK [0] CV
 ·have hne:b.q.isEmpty=true:=by
   have:=of_decide_eq_false hq
   rw [List.isEmpty_iff_length_eq_zero];omega
  rw [hne] at hK
  have h0:(bif b.err !=0 then b.err else bif true then 0 else 23)=b.err:=by
   cases c:b.err !=0
   ·have:b.err=0:=by simpa using c
    rw [this];rfl
   ·rfl
  have h1:(bif b.err !=0 then b.place else bif true then b.place else (dA b.q).1)=b.place:=by cases b.err !=0<;>rfl
  rw [h0,h1] at hK
  exact hK [] qK
end Go.Proofs.YtghnfjfkjhbgdaaGreatDoor
namespace Go.Se
variable {P:Program}
theorem DJ {k:FuncId} {xs:List SV} {e e2:TypeId} {st n:Nat} {g g':Nat->List SV} {cs:List SV} (hcs:ids.idsL cs=[]) (hg: ∀i,i<n->g i=g' i)
  (h:aD P k xs [] (.ptr 0 0) [some (.cells e (.own 1 0 st n::cs)),some (.row e2 st n g)] []):aD P k xs [] (.ptr 0 0) [some (.cells e (.ro n st g'::cs))] []:=by
 intro ρ T w vals h1 h2 h3 h4
 refine (h ρ T w vals h1 h2 h3 h4).mono fun x w' ⟨ρ',T',hd⟩=> ?_
 obtain ⟨b0,r1,rfl⟩:=hd.val
 obtain ⟨b0',r2,r3,vs0,r4,v1,rest,r5,r6,r7⟩:=hd.store 0 _ rfl
 rw [r1] at r2;cases r2
 obtain ⟨b1,c,q1,rfl,q2,q3,_⟩:=r6
 obtain ⟨b1',q4,q5,vs1,q6,q7,q8⟩:=hd.store 1 _ rfl
 rw [q1] at q4;cases q4
 have hne:b0≠b1:=fun e=>by
  subst e
  have:=hd.inj 0 1 b0 (Nat.le_refl _) (Nat.zero_le _) r1 q1
  cases this
 have hρ: ∀p,ρ p=none:=fun p=>by
  cases hp:ρ p with
  |none=>rfl
  |some b=>exact absurd (h4 p b hp).1 (Nat.not_lt_zero _)
 have hnew: ∀p b,ρ' p=some b->w.heap.size<=b:=fun p b hp=>by
  rcases hd.fresh p b (Nat.zero_le _) hp with h|⟨q,hq,_⟩
  ·exact h
  ·cases hq
 refine ⟨fun p=>if p=0 then some b0 else none,fun c=>T' c/\c≠b1,{
  names:=fun p b hp=>by rw [hρ] at hp;cases hp
  only:=fun p b hp=>by
   by_cases h0:p=0
   ·subst h0;exact Nat.zero_lt_one
   ·simp only [if_neg h0] at hp;cases hp
  len:=Nat.zero_le _
  val:=⟨b0,rfl,rfl⟩
  store:=fun p sb hp=> ?_
  fresh:=fun p b _ hp=>by
   by_cases h0:p=0
   ·subst h0
    simp only [if_true,Option.some.injEq] at hp
    subst hp
    exact .inl (hnew 0 _ r1)
   ·simp only [if_neg h0] at hp;cases hp
  inj:=fun p q b _ _ hp hq=>by
   by_cases h0:p=0<;>by_cases h1:q=0
   ·rw [h0,h1]
   ·simp only [if_neg h1] at hq;cases hq
   ·simp only [if_neg h0] at hp;cases hp
   ·simp only [if_neg h0] at hp;cases hp
  dirty:=fun p hp=>by cases hp
  grow:=hd.grow
  tback:=fun c hc ht=>hd.tback c hc ht.1
  below:=fun p b hp=>by
   by_cases h0:p=0
   ·subst h0
    simp only [if_true,Option.some.injEq] at hp
    subst hp
    exact hd.below 0 _ r1
   ·simp only [if_neg h0] at hp;cases hp
  tkeep:=fun c hc ht=>by
   rcases hd.tkeep c hc ht with h|⟨q,hq,_⟩
   ·have:=hnew 1 b1 q1
    exact .inl ⟨h,by omega⟩
   ·cases hq}⟩
 match p,hp with
 |p+1,hp=>simp at hp
 |0,hp=>
  cases hp
  refine ⟨b0,rfl,⟨r3,hne⟩,vs0,r4,_,rest,r5, ?_, ?_⟩
  ·refine ⟨some ⟨b1,0*st,none⟩,c,rfl,⟨q2,by omega,fun he=>by cases he⟩,fun _=>⟨b1,0,by rw [Nat.zero_mul],(Array.getElem?_eq_some_iff.1 q6).1,fun ht=>ht.2 rfl,fun i hi=> ?_⟩⟩
   have hr:=aS (T':=fun c=>T' c/\c≠b1) (fun _ _ h=>h) (fun _ _ h=>h.1) (aX.refl T' w') _ _ (q8 i hi)
   rw [Nat.zero_add,<- hg i hi]
   refine dJ hr fun j u hj=> ?_
   rw [dQ q6]
   rw [List.getElem?_take] at hj
   split at hj
   ·rw [List.getElem?_drop] at hj
    simpa using hj
   ·cases hj
  ·exact aS (fun _ _ h=>h) (fun _ _ h=>h.1) (aX.refl T' w') _ _ (eP _ _ hcs r7)
theorem CM {k:FuncId} {xs:List SV} {e:TypeId} {st:Nat} {g:Nat->List SV} {cs:List SV}
  (h:aD P k xs [] (.ptr 0 0) [some (.cells e (.nils::cs))] []):aD P k xs [] (.ptr 0 0) [some (.cells e (.ro 0 st g::cs))] []:=by
 intro ρ T w vals h1 h2 h3 h4
 refine (h ρ T w vals h1 h2 h3 h4).mono fun x w' ⟨ρ',T',hd⟩=>⟨ρ',T',{
  names:=hd.names
  only:=hd.only
  len:=hd.len
  val:=hd.val
  store:=fun p sb hp=> ?_
  fresh:=fun p b hp hb=>by
   rcases hd.fresh p b hp hb with h|⟨q,hq,_⟩
   ·exact .inl h
   ·cases hq
  inj:=hd.inj
  dirty:=hd.dirty
  grow:=hd.grow
  tback:=hd.tback
  below:=hd.below
  tkeep:=fun c hc ht=>by
   rcases hd.tkeep c hc ht with h|⟨q,hq,_⟩
   ·exact .inl h
   ·cases hq}⟩
 match p,hp with
 |p+1,hp=>simp at hp
 |0,hp=>
  cases hp
  obtain ⟨b0,r2,r3,vs0,r4,v1,rest,r5,r6,r7⟩:=hd.store 0 _ rfl
  exact ⟨b0,r2,r3,vs0,r4,v1,rest,r5,fS r6,r7⟩
end Go.Se
namespace Go.Proofs.YtghnfjfkjhbgdaaGreatDoor
open Go.Se
set_option maxRecDepth 100000
noncomputable def y6 :bT Tryz.prog:=y5
end Go.Proofs.YtghnfjfkjhbgdaaGreatDoor
namespace Go.Proofs.YtghnfjfkjhbgdaaGreatDoor
open Go.Se
set_option maxRecDepth 100000
noncomputable abbrev BD(R:List (Nat×eR×List ((Nat×List Nat)×Nat)))(u:Nat->Nat)(B:bT Tryz.prog)(n:Nat)(k:FuncId)(xs:List SV)(σ:List (Option SB))(K:KC):Prop:=
 calls (tab.env B u (fun _=>false)) (bZ R) B.dom n k xs σ K
theorem zQ (R:List (Nat×eR×List ((Nat×List Nat)×Nat))) (u:Nat->Nat) (B:bT Tryz.prog) (n:Nat) {k:FuncId} {xs:List SV} {σ:List (Option SB)} {v:SV} {σ':List (Option SB)} {d:List Nat}
  (hl: ∀p,p∈d->p<σ.length)
  (h:okL xs->okS σ-> ∀K:KC,(∀d',(∀p,p∈d'->p∈d)->K v σ' d')->BD R u B n k xs σ K):aD Tryz.prog k xs σ v σ' d:=
 xI (R:=R) tab B hl fun h1 h2=>h h1 h2 _ fun _ hd=>⟨rfl,rfl,hd⟩
noncomputable abbrev aBV(R:List (Nat×eR×List ((Nat×List Nat)×Nat)))(u:Nat->Nat)(B:bT Tryz.prog)(n:Nat):Env:=
 {tab.env B u (fun _=>false) with callee:=calls (tab.env B u (fun _=>false)) (bZ R) B.dom n,round:=fun xs σ K=>calls.roundsN (tab.env B u (fun _=>false)) (bZ R) B.dom n xs σ K}
def opR :List (Nat×eR×List ((Nat×List Nat)×Nat)):=[(0,⟨[3,10,11,12],[0,1],[0,1,2,3,4,5,6,7,8],2,[]⟩,[((3,[0]),1)])]
def opS(L:List (List Int))(o:SV)(b:Option SB)(all i:Int):St:=⟨[(3,.ptr 0 0),(10,.ro L.length 1 (aH L)),(11,.int .i64 L.length),(12,.int .i64 i)],[(0,some (.cells bkT [o,.int .i64 all,.int .i64 0,.int .i64 0,.int .i64 0])),(1,b)],2,[0,1,2,3,4,5,6,7,8],44⟩
noncomputable abbrev opE :Env:=aBV opR (fun _=>0) y5 2
noncomputable abbrev opF :Func:=Tryz.f31
abbrev opP :List Nat:=[1,1,0,1,0]
theorem ZR(s:ByteArray)(K:KC):BD opR (fun _=>0) y5 3 31 [.str s] [] K=
 (Br (decide (s.size<=1048576)) (∃q_,bO opE (bZ opR 0) opF opP 0 0 K q_ {tmps:=[(3,SV.ptr 0 0),(10,SV.ro (dZ (aA s)).length 1 (aH (dZ (aA s)))),(11,SV.int .i64 (↑(dZ (aA s)).length:Int)),(12,SV.int .i64 0)],store:=[(0,some (SB.cells 130 [SV.nils,SV.int .i64 0,SV.int .i64 0,SV.int .i64 0,SV.int .i64 0])),(1,none)],nxt:=2,dirty:=[0,1,2,3,4,5,6,7,8],nt:=44}) (False)):=by kernel_rfl
theorem T8(L:List (List Int))(all:Int)(i:Nat)(K:Ex->St->Prop):aF opE (bZ opR 0) opF opP 0 K (opS L .nils none all i)=
 (Br (decide ((↑i:Int)<(↑L.length:Int))) (Br (decide (0<=(↑i:Int))&&decide ((↑i:Int)<(↑L.length:Int))) (Br (decide ((bytesOf (L.getD (↑i:Int).toNat [])).size<=1048576)) (Br (decide ((↑(bW (aA (bytesOf (L.getD (↑i:Int).toNat [])))).length:Int)>0)) (K Ex.normal {tmps:=[(3,SV.ptr 0 0),(10,SV.ro L.length 1 (aH L)),(11,SV.int .i64 (↑L.length:Int)),(12,SV.int .i64 (IntKind.i64.wrap ((↑i:Int)+1)))],store:=[(0,some (SB.cells 130 [SV.own 1 0 2 1,SV.int .i64 (IntKind.i64.wrap (all+1)),SV.int .i64 0,SV.int .i64 0,SV.int .i64 0])),(1,some (SB.row 133 2 1 fun (i_1:Nat)=>cut [SV.int .i64 (IntKind.i64.wrap ((↑i:Int)+1)),SV.ro (bW (aA (bytesOf (L.getD (↑i:Int).toNat [])))).length 1 (aH (bW (aA (bytesOf (L.getD (↑i:Int).toNat [])))))] (i_1*2) 2))],nxt:=2,dirty:=[0,1,2,3,4,5,6,7,8],nt:=44}) (K Ex.normal {tmps:=[(3,SV.ptr 0 0),(10,SV.ro L.length 1 (aH L)),(11,SV.int .i64 (↑L.length:Int)),(12,SV.int .i64 (IntKind.i64.wrap ((↑i:Int)+1)))],store:=[(0,some (SB.cells 130 [SV.nils,SV.int .i64 (IntKind.i64.wrap (all+1)),SV.int .i64 0,SV.int .i64 0,SV.int .i64 0])),(1,none)],nxt:=2,dirty:=[0,1,2,3,4,5,6,7,8],nt:=44})) (False)) (False)) (K (Ex.exit 0) {tmps:=[(3,SV.ptr 0 0),(10,SV.ro L.length 1 (aH L)),(11,SV.int .i64 (↑L.length:Int)),(12,SV.int .i64 (↑i:Int))],store:=[(0,some (SB.cells 130 [SV.nils,SV.int .i64 all,SV.int .i64 0,SV.int .i64 0,SV.int .i64 0])),(1,none)],nxt:=2,dirty:=[0,1,2,3,4,5,6,7,8],nt:=44})):=by kernel_rfl
theorem U5(L:List (List Int))(m:Nat)(g:Nat->List SV)(all:Int)(i:Nat)(K:Ex->St->Prop):aF opE (bZ opR 0) opF opP 0 K (opS L (.own 1 0 2 m) (some (.row 133 2 m g)) all i)=
 (Br (decide ((↑i:Int)<(↑L.length:Int))) (Br (decide (0<=(↑i:Int))&&decide ((↑i:Int)<(↑L.length:Int))) (Br (decide ((bytesOf (L.getD (↑i:Int).toNat [])).size<=1048576)) (Br (decide ((↑(bW (aA (bytesOf (L.getD (↑i:Int).toNat [])))).length:Int)>0)) (Br (decide ((m+1)*32<=1099511627776)&&decide (m+1<9223372036854775808)&&decide (m=m)) (K Ex.normal {tmps:=[(3,SV.ptr 0 0),(10,SV.ro L.length 1 (aH L)),(11,SV.int .i64 (↑L.length:Int)),(12,SV.int .i64 (IntKind.i64.wrap ((↑i:Int)+1)))],store:=[(0,some (SB.cells 130 [SV.own 1 0 2 (m+1),SV.int .i64 (IntKind.i64.wrap (all+1)),SV.int .i64 0,SV.int .i64 0,SV.int .i64 0])),(1,some (SB.row 133 2 (m+1) (bI m [SV.int .i64 (IntKind.i64.wrap ((↑i:Int)+1)),SV.ro (bW (aA (bytesOf (L.getD (↑i:Int).toNat [])))).length 1 (aH (bW (aA (bytesOf (L.getD (↑i:Int).toNat [])))))] g)))],nxt:=2,dirty:=[0,1,2,3,4,5,6,7,8],nt:=44}) (False)) (K Ex.normal {tmps:=[(3,SV.ptr 0 0),(10,SV.ro L.length 1 (aH L)),(11,SV.int .i64 (↑L.length:Int)),(12,SV.int .i64 (IntKind.i64.wrap ((↑i:Int)+1)))],store:=[(0,some (SB.cells 130 [SV.own 1 0 2 m,SV.int .i64 (IntKind.i64.wrap (all+1)),SV.int .i64 0,SV.int .i64 0,SV.int .i64 0])),(1,some (SB.row 133 2 m g))],nxt:=2,dirty:=[0,1,2,3,4,5,6,7,8],nt:=44})) (False)) (False)) (K (Ex.exit 0) {tmps:=[(3,SV.ptr 0 0),(10,SV.ro L.length 1 (aH L)),(11,SV.int .i64 (↑L.length:Int)),(12,SV.int .i64 (↑i:Int))],store:=[(0,some (SB.cells 130 [SV.own 1 0 2 m,SV.int .i64 all,SV.int .i64 0,SV.int .i64 0,SV.int .i64 0])),(1,some (SB.row 133 2 m g))],nxt:=2,dirty:=[0,1,2,3,4,5,6,7,8],nt:=44})):=by kernel_rfl
theorem TD(L:List (List Int))(all:Int)(i:Nat)(K:KC):aE opE (bZ opR 0) opF opP 0 K (.exit 0) (opS L .nils none all i)=
 (K (SV.ptr 0 0) [some (SB.cells 130 [SV.nils,SV.int .i64 all,SV.int .i64 0,SV.int .i64 0,SV.int .i64 0])] []):=by kernel_rfl
theorem V4(L:List (List Int))(m:Nat)(g:Nat->List SV)(all:Int)(i:Nat)(K:KC):aE opE (bZ opR 0) opF opP 0 K (.exit 0) (opS L (.own 1 0 2 m) (some (.row 133 2 m g)) all i)=
 (K (SV.ptr 0 0) [some (SB.cells 130 [SV.own 1 0 2 m,SV.int .i64 all,SV.int .i64 0,SV.int .i64 0,SV.int .i64 0]),some (SB.row 133 2 m g)] []):=by kernel_rfl
abbrev RX :TypeId:=133
def opK(q:List (Int×List (List Int)))(all:Int)(K:KC):Prop:=
 (q=[]->K (.ptr 0 0) [some (.cells bkT [.nils,.int .i64 all,.int .i64 0,.int .i64 0,.int .i64 0])] [])/\
 ∀g,(∀j (h:j<q.length),g j=LL q[j])->K (.ptr 0 0) [some (.cells bkT [.own 1 0 2 q.length,.int .i64 all,.int .i64 0,.int .i64 0,.int .i64 0]),some (.row RX 2 q.length g)] []
theorem aE9(L:List (List Int))(hL:TZ L)(K:KC)(hK:opK (nbF 0 L) L.length K): ∃q,bO opE (bZ opR 0) opF opP 0 0 K q (opS L .nils none 0 0):=by
 have hlen:=hL.len
 refine ⟨L.length+1,gV (fun a:List (Int×List (List Int))×SV×Option SB×Nat=>opS L a.2.1 a.2.2.1 (a.2.2.2:Nat) a.2.2.2) (fun a=>L.length - a.2.2.2)
  (fun a=>cB RX 2 1 LL a.1 a.2.1 a.2.2.1/\a.2.2.2<=L.length/\a.1.length<=a.2.2.2/\a.1++nbF a.2.2.2 (L.drop a.2.2.2)=nbF 0 L) ?_ (L.length+1) ([],.nils,none,0) ⟨kQ,Nat.zero_le _,Nat.le_refl _,rfl⟩ (by show L.length - 0<_;omega)⟩
 rintro ⟨Q,o,b,i⟩ ⟨ht,h1,h2,h3⟩ X hX
 simp only at ht h1 h2 h3 hX|-
 obtain ⟨o1,o2⟩:=hL.at i
 have stop: ¬i<L.length->aE opE (bZ opR 0) opF opP 0 K (.exit 0) (opS L o b i i):=by
  intro hi
  have hi:i=L.length:=by omega
  subst hi
  rw [RI,List.append_nil] at h3
  rcases ht with ⟨h0,rfl,rfl⟩|⟨g,hne,rfl,rfl,hg⟩
  ·rw [TD];exact hK.1 (by rw [<- h3];exact h0)
  ·rw [V4]
   subst h3
   exact hK.2 g hg
 have skip:i<L.length->bW (L.getD i [])=[]->X (opS L o b (i+1:Nat) (i+1:Nat)):=fun hi hp=>
  hX (Q,o,b,i+1) ⟨ht,hi,by show Q.length<=i+1;omega,by show Q++nbF (i+1:Nat) (L.drop (i+1))=_;rw [<- E3 hi hp];exact h3⟩ (by show L.length - (i+1)<L.length - i;omega)
 have push:i<L.length->bW (L.getD i [])≠[]-> ∀o' b',cB RX 2 1 LL (Q++[((i:Int)+1,bW (L.getD i []))]) o' b'->X (opS L o' b' (i+1:Nat) (i+1:Nat)):=fun hi hp o' b' ht'=>
  hX (Q++[((i:Int)+1,bW (L.getD i []))],o',b',i+1) ⟨ht',hi,by show (Q++[_]).length<=i+1;simp;omega,by show (Q++[_])++nbF (i+1:Nat) (L.drop (i+1))=_;rw [List.append_assoc,<- h3,LT hi hp];rfl⟩ (by show L.length - (i+1)<L.length - i;omega)
 have hwi:i<L.length->IntKind.i64.wrap ((i:Int)+1)=((i+1:Nat):Int):=fun h=>aO h (by omega)
 have hpe: ∀P:List (List Int),decide (((P.length:Nat):Int)>0)= !P.isEmpty:=fun P=>by cases P<;>simp<;>omega
 rcases ht with ⟨rfl,rfl,rfl⟩|⟨g,hne,rfl,rfl,hg⟩
 ·rw [T8]
  simp only [Int.toNat_natCast,cG o1,aR,hpe]
  refine Br.of (fun c=> ?_) fun c=>stop fun h=>of_decide_eq_false c (by omega)
  have c:i<L.length:=by have:=of_decide_eq_true c;omega
  rw [hwi c]
  refine Br.of (fun _=>Br.of (fun _=>Br.of (fun d=> ?_) fun d=> ?_) fun f=>absurd o2 (of_decide_eq_false f)) fun f=>nH c f
  ·exact push c (fun e=>by rw [e] at d;cases d) _ _ (by rw [List.nil_append];exact eO (by push_cast;rfl) rfl)
  ·exact skip c (by simpa using d)
 ·rw [U5]
  simp only [Int.toNat_natCast,cG o1,aR,hpe]
  refine Br.of (fun c=> ?_) fun c=>stop fun h=>of_decide_eq_false c (by omega)
  have c:i<L.length:=by have:=of_decide_eq_true c;omega
  rw [hwi c]
  refine Br.of (fun _=>Br.of (fun _=>Br.of (fun d=>Br.of (fun _=> ?_) fun f=> ?_) fun d=> ?_) fun f=>absurd o2 (of_decide_eq_false f)) fun f=>nH c f
  ·exact push c (fun e=>by rw [e] at d;cases d) _ _ (fM (by push_cast;rfl) rfl hg)
  ·rw [Bool.and_eq_false_iff,Bool.and_eq_false_iff] at f
   rcases f with (f|f)|f
   ·have:=of_decide_eq_false f;omega
   ·have:=of_decide_eq_false f;omega
   ·simp at f
  ·exact skip c (by simpa using d)
theorem AD{s:ByteArray}(h:s.size<=1048576):TZ (dZ (aA s)):=by
 have hl:=bU s
 exact ⟨by have:=H1 (aA s) [];unfold dZ;omega,VA (cQ s) (by omega)⟩
theorem aU(s:ByteArray)(h:s.size<=1048576):aD Tryz.prog 31 [.str s] [] (.ptr 0 0) [some (.cells bkT (bkC (rF (aA s)) (jH (aA s))))] []:=by
 have hs:Sat Tryz.prog 31 [.str s] [] (opK (nbF 0 (dZ (aA s))) (dZ (aA s)).length):=fun K hK=>
  bX (env:=tab.env y5 (fun _=>0) (fun _=>false)) ⟨tab.htt,y5.ok⟩ tab.mixed (fun n=>qS n opR) tab.hft 3 _ _ _ K (by
   show BD opR (fun _=>0) y5 3 31 [.str s] [] K
   rw [ZR]
   exact Br.of (fun _=>aE9 _ (AD h) K hK) fun c=>absurd h (of_decide_eq_false c))
 obtain ⟨v,σ',d,hv,hc⟩:=hs (fun v σ' d=>(nbF 0 (dZ (aA s))=[]/\v= .ptr 0 0/\σ'=[some (.cells bkT [.nils,.int .i64 (dZ (aA s)).length,.int .i64 0,.int .i64 0,.int .i64 0])]/\d=[])\/
   ∃g,(∀j (h:j<(nbF 0 (dZ (aA s))).length),g j=LL (nbF 0 (dZ (aA s)))[j])/\v= .ptr 0 0/\σ'=[some (.cells bkT [.own 1 0 2 (nbF 0 (dZ (aA s))).length,.int .i64 (dZ (aA s)).length,.int .i64 0,.int .i64 0,.int .i64 0]),some (.row RX 2 (nbF 0 (dZ (aA s))).length g)]/\d=[])
  ⟨fun hq=> .inl ⟨hq,rfl,rfl,rfl⟩,fun g hg=> .inr ⟨g,hg,rfl,rfl,rfl⟩⟩
 rcases hv with ⟨hq,rfl,rfl,rfl⟩|⟨g,hg,rfl,rfl,rfl⟩
 ·have:=CM (st:=2) (g:=qG []) hc
  unfold jH rF bkC
  rw [hq]
  exact this
 ·exact DJ (g':=qG (nbF 0 (dZ (aA s)))) rfl (fun i hi=>(hg i hi).trans (dM (L:=nbF 0 (dZ (aA s))) hi).symm) hc
end Go.Proofs.YtghnfjfkjhbgdaaGreatDoor
namespace Go.Proofs.YtghnfjfkjhbgdaaGreatDoor
open Go.Se
set_option maxRecDepth 100000
theorem wW {B:bT Tryz.prog} {n:Nat} {k:FuncId} {xs:List SV} {σ:List (Option SB)} {Φ:KC->Prop} {u:Nat->Nat} (D:List Nat) (hl: ∀p,p∈D->p<σ.length)
  (h: ∀K:KC,Φ K->calls (tab.env B u (fun _=>false)) (aB []) B.dom n k xs σ fun v σ' d=>(∀p,p∈d->p∈D)/\K v σ' D):Sat Tryz.prog k xs σ Φ:=fun K hK=>by
 obtain ⟨v,σ',d,⟨hd,hv⟩,hc⟩:=bX (env:=tab.env B u (fun _=>false)) ⟨tab.htt,B.ok⟩ tab.mixed (fun n=>bC n []) tab.hft n k xs σ _ (h K hK)
 exact ⟨v,σ',D,hv,pV hc hd hl⟩
theorem pW{σ:List (Option SB)}{a:Option SB}: ∀p,p∈[0]->p<(a::σ).length:=fun p h=>by rw [List.mem_singleton.1 h];exact Nat.zero_lt_succ _
def aBA :List SV->List (Option SB)->Option (Bool×SV×List (Option SB)×List Nat)
 | [.str s],[]=>some (decide (s.size<=1048576),.ptr 0 0,[some (.cells 130 (bkC (rF (aA s)) (jH (aA s))))],[])
 |_,_=>none
def cTk :List SV->List (Option SB)->KC->Prop
 | [.ptr 0 0,.str w,.int .i64 lo,.int .i64 hi],[some (.cells 130 cs)],K=> ∃(b:Bk) (all:Int),(cs=bkC all b/\aK b/\(0<=all/\all<=1048577))/\
   Br (fV b w lo hi) (K .nils [some (.cells 130 (bkC all (gJ all b w lo hi)))] [0]) (K (.ro (iD b).length 1 (aH (iD b))) [some (.cells 130 (bkC all (gJ all b w lo hi)))] [0])
 |_,_,_=>False
theorem aA1(xs:List SV)(σ:List (Option SB)):Sat Tryz.prog 81 xs σ (cTk xs σ):=by
 intro K hK
 unfold cTk at hK
 split at hK
 case h_2=>exact hK.elim
 obtain ⟨b,all,⟨rfl,h1,h2⟩,hK⟩:=hK
 refine wW (B:=y5) (n:=3) (u:=fun _=>0) (Φ:=fun K=>Br (fV b _ _ _) (K _ _ [0]) (K _ _ [0])) [0] pW (fun K hK=>aAu h1 h2 (fun hN d' hd=>⟨hd, ?_⟩) fun hN d' hd=>⟨hd, ?_⟩) K hK
 ·rw [hN] at hK;exact hK
 ·rw [hN] at hK;exact hK
def cNx :List SV->List (Option SB)->KC->Prop
 | [.ptr 0 0,.str w],[some (.cells 130 cs)],K=> ∃(b:Bk) (all:Int),(cs=bkC all b/\aK b)/\K (.bool (fG b w)) [some (.cells 130 (bkC all b))] [0]
 |_,_,_=>False
theorem WB(xs:List SV)(σ:List (Option SB)):Sat Tryz.prog 80 xs σ (cNx xs σ):=by
 intro K hK
 unfold cNx at hK
 split at hK
 case h_2=>exact hK.elim
 obtain ⟨b,all,⟨rfl,h1⟩,hK⟩:=hK
 exact wW (B:=y5) (n:=3) (u:=fun _=>0) (Φ:=fun K=>K _ _ [0]) [0] pW (fun K hK=>YT h1 ⟨qK,hK⟩) K hK
def cNm :List SV->List (Option SB)->KC->Prop
 | [.ptr 0 0,.str s],[some (.cells 130 cs)],K=> ∃(b:Bk) (all:Int),cs=bkC all b/\K (.int .i64 (wK b (aA s))) [some (.cells 130 (bkC all (kH b (aA s))))] [0]
 |_,_,_=>False
theorem aAh(xs:List SV)(σ:List (Option SB)):Sat Tryz.prog 76 xs σ (cNm xs σ):=by
 intro K hK
 unfold cNm at hK
 split at hK
 case h_2=>exact hK.elim
 obtain ⟨b,all,rfl,hK⟩:=hK
 exact wW (B:=y5) (n:=3) (u:=fun _=>0) (Φ:=fun K=>K _ _ [0]) [0] pW (fun K hK=>aBb fun d' hd=>⟨hd,hK⟩) K hK
def cIt :List SV->List (Option SB)->KC->Prop
 | [.ptr 0 0,.str s,.int .i64 lo,.int .i64 hi],[some (.cells 130 cs)],K=> ∃(b:Bk) (all:Int),cs=bkC all b/\K (.int .i64 (kF b (aA s) lo hi)) [some (.cells 130 (bkC all (iI b (aA s) lo hi)))] [0]
 |_,_,_=>False
theorem YS(xs:List SV)(σ:List (Option SB)):Sat Tryz.prog 41 xs σ (cIt xs σ):=by
 intro K hK
 unfold cIt at hK
 split at hK
 case h_2=>exact hK.elim
 obtain ⟨b,all,rfl,hK⟩:=hK
 exact wW (B:=y5) (n:=3) (u:=fun _=>0) (Φ:=fun K=>K _ _ [0]) [0] pW (fun K hK=>aCi fun d' hd=>⟨hd,hK⟩) K hK
def cOd :List SV->List (Option SB)->KC->Prop
 | [.ptr 0 0],[some (.cells 130 cs)],K=> ∃(b:Bk) (all:Int),cs=bkC all b/\K (.tup []) [some (.cells 130 (bkC all (vI b)))] [0]
 |_,_,_=>False
theorem X1(xs:List SV)(σ:List (Option SB)):Sat Tryz.prog 82 xs σ (cOd xs σ):=by
 intro K hK
 unfold cOd at hK
 split at hK
 case h_2=>exact hK.elim
 obtain ⟨b,all,rfl,hK⟩:=hK
 exact wW (B:=y5) (n:=3) (u:=fun _=>0) (Φ:=fun K=>K _ _ [0]) [0] pW (fun K hK=>aCA fun d' hd=>⟨hd,hK⟩) K hK
def cEn :List SV->List (Option SB)->KC->Prop
 | [.ptr 0 0],[some (.cells 130 cs)],K=> ∃(b:Bk) (all:Int),cs=bkC all b/\K (.tup [.int .i64 (G9 b),.int .i64 (J2 b)]) [some (.cells 130 (bkC all (ZO b)))] [0]
 |_,_,_=>False
theorem aAr(xs:List SV)(σ:List (Option SB)):Sat Tryz.prog 42 xs σ (cEn xs σ):=by
 intro K hK
 unfold cEn at hK
 split at hK
 case h_2=>exact hK.elim
 obtain ⟨b,all,rfl,hK⟩:=hK
 exact wW (B:=y5) (n:=3) (u:=fun _=>0) (Φ:=fun K=>K _ _ [0]) [0] pW (fun K hK=>aCb fun d' hd=>⟨hd,hK⟩) K hK
noncomputable def y7 :bT Tryz.prog:=(((((((y6).add 31 (lI aBA) (d6 fun xs σ v σ' d h=>by
  unfold aBA at h;split at h
  ·simp only [Option.some.injEq,Prod.mk.injEq] at h
   obtain ⟨h1,rfl,rfl,rfl⟩:=h
   first|exact aU h1|exact aU _ h1|exact aU _ _ h1|exact aU _ _ _ h1|exact aU _ _ _ _ h1|exact aU _ _ _ _ _ h1|exact aU _ _ _ _ _ _ h1|exact aU _ _ _ _ _ _ _ h1|exact aU _ _ _ _ _ _ _ _ h1|exact aU _ _ _ _ _ _ _ _ _ h1|exact aU _ _ _ _ _ _ _ _ _ _ h1|exact aU _ _ _ _ _ _ _ _ _ _ _ h1|exact aU _ _ _ _ _ _ _ _ _ _ _ _ h1|exact aU (of_decide_eq_true h1)|exact aU _ (of_decide_eq_true h1)|exact aU _ _ (of_decide_eq_true h1)|exact aU _ _ _ (of_decide_eq_true h1)|exact aU _ _ _ _ (of_decide_eq_true h1)|exact aU _ _ _ _ _ (of_decide_eq_true h1)|exact aU _ _ _ _ _ _ (of_decide_eq_true h1)|exact aU _ _ _ _ _ _ _ (of_decide_eq_true h1)|exact aU _ _ _ _ _ _ _ _ (of_decide_eq_true h1)|exact aU _ _ _ _ _ _ _ _ _ (of_decide_eq_true h1)|exact aU _ _ _ _ _ _ _ _ _ _ (of_decide_eq_true h1)|exact aU _ _ _ _ _ _ _ _ _ _ _ (of_decide_eq_true h1)|exact aU _ _ _ _ _ _ _ _ _ _ _ _ (of_decide_eq_true h1)
  ·cases h)).add 81 cTk aA1).add 80 cNx WB).add 76 cNm aAh).add 41 cIt YS).add 82 cOd X1).add 42 cEn aAr
end Go.Proofs.YtghnfjfkjhbgdaaGreatDoor
namespace Go.Proofs.YtghnfjfkjhbgdaaGreatDoor
open Go.Se
set_option maxRecDepth 100000
theorem aBG(b:Bk)(all:Int)(s a c e f:ByteArray)(t:TypeId)(K:KC):n9 6 y5 3 83 [.ptr 0 0,.str s,.arr 1 0 4 4] [some (.cells bkT (bkC all b)),some (.cells t [.str a,.str c,.str e,.str f])] K=
 (Br (!b.err==0) (K (SV.int .i64 0) [some (SB.cells 130 [SV.ro b.q.length 2 (qG b.q),SV.int .i64 all,SV.int .i64 b.last,SV.int .i64 b.err,SV.int .i64 b.place]),some (SB.cells t [SV.str a,SV.str c,SV.str e,SV.str f])] []) (Br (s==a) (K (SV.int .i64 0) [some (SB.cells 130 [SV.ro b.q.length 2 (qG b.q),SV.int .i64 all,SV.int .i64 b.last,SV.int .i64 b.err,SV.int .i64 b.place]),some (SB.cells t [SV.str a,SV.str c,SV.str e,SV.str f])] []) (Br (s==c) (K (SV.int .i64 1) [some (SB.cells 130 [SV.ro b.q.length 2 (qG b.q),SV.int .i64 all,SV.int .i64 b.last,SV.int .i64 b.err,SV.int .i64 b.place]),some (SB.cells t [SV.str a,SV.str c,SV.str e,SV.str f])] []) (Br (s==e) (K (SV.int .i64 2) [some (SB.cells 130 [SV.ro b.q.length 2 (qG b.q),SV.int .i64 all,SV.int .i64 b.last,SV.int .i64 b.err,SV.int .i64 b.place]),some (SB.cells t [SV.str a,SV.str c,SV.str e,SV.str f])] []) (Br (s==f) (K (SV.int .i64 3) [some (SB.cells 130 [SV.ro b.q.length 2 (qG b.q),SV.int .i64 all,SV.int .i64 b.last,SV.int .i64 b.err,SV.int .i64 b.place]),some (SB.cells t [SV.str a,SV.str c,SV.str e,SV.str f])] []) (Br (b.err==0) (K (SV.int .i64 0) [some (SB.cells 130 [SV.ro b.q.length 2 (qG b.q),SV.int .i64 all,SV.int .i64 b.last,SV.int .i64 24,SV.int .i64 b.last]),some (SB.cells t [SV.str a,SV.str c,SV.str e,SV.str f])] [0]) (K (SV.int .i64 0) [some (SB.cells 130 [SV.ro b.q.length 2 (qG b.q),SV.int .i64 all,SV.int .i64 b.last,SV.int .i64 b.err,SV.int .i64 b.place]),some (SB.cells t [SV.str a,SV.str c,SV.str e,SV.str f])] []))))))):=by kernel_rfl
theorem XJ{b:Bk}{all:Int}{s a:ByteArray}{t:TypeId}{K:KC}(hK: ∀d',(∀p,p∈d'->p∈[0])->K (.int .i64 (oA b s [a])) [some (.cells bkT (bkC all (jZ b s [a]))),some (.cells t [.str a])] d'):
  n9 3 y5 3 83 [.ptr 0 0,.str s,.arr 1 0 1 1] [some (.cells bkT (bkC all b)),some (.cells t [.str a])] K:=by
 rw [aBz]
 cases hc:b.err==0 with
 |false=>
  obtain ⟨t1,t2⟩:=H8 (s:=s) (ws:=[a]) hc
  rw [t1,t2] at hK;exact hK [] qK
 |true=>
  refine Br.of (fun e=>by cases e) fun _=> ?_
  refine Br.of (fun h=> ?_) fun h0=> ?_
  ·obtain ⟨t1,t2⟩:=j8 (ws:=[a]) (j:=0) hc (by rw [pO h]) (by simp)
   rw [t1,t2] at hK;exact hK [] qK
  obtain ⟨t1,t2⟩:=BX (ws:=[a]) hc (by rw [iB h0];rfl)
  rw [t1,t2] at hK
  exact Br.of (fun _=>hK [0] CV) fun e=>by cases e
theorem aAn{b:Bk}{all:Int}{s a c:ByteArray}{t:TypeId}{K:KC}(hK: ∀d',(∀p,p∈d'->p∈[0])->K (.int .i64 (oA b s [a,c])) [some (.cells bkT (bkC all (jZ b s [a,c]))),some (.cells t [.str a,.str c])] d'):
  n9 4 y5 3 83 [.ptr 0 0,.str s,.arr 1 0 2 2] [some (.cells bkT (bkC all b)),some (.cells t [.str a,.str c])] K:=by
 rw [aCv]
 cases hc:b.err==0 with
 |false=>
  obtain ⟨t1,t2⟩:=H8 (s:=s) (ws:=[a,c]) hc
  rw [t1,t2] at hK;exact hK [] qK
 |true=>
  refine Br.of (fun e=>by cases e) fun _=> ?_
  refine Br.of (fun h=> ?_) fun h0=> ?_
  ·obtain ⟨t1,t2⟩:=j8 (ws:=[a,c]) (j:=0) hc (by rw [pO h]) (by simp)
   rw [t1,t2] at hK;exact hK [] qK
  refine Br.of (fun h=> ?_) fun h1=> ?_
  ·obtain ⟨t1,t2⟩:=j8 (ws:=[a,c]) (j:=1) hc (by rw [iB h0,pO h]) (by simp)
   rw [t1,t2] at hK;exact hK [] qK
  obtain ⟨t1,t2⟩:=BX (ws:=[a,c]) hc (by rw [iB h0,iB h1];rfl)
  rw [t1,t2] at hK
  exact Br.of (fun _=>hK [0] CV) fun e=>by cases e
theorem aAC{b:Bk}{all:Int}{s a c e f:ByteArray}{t:TypeId}{K:KC}(hK: ∀d',(∀p,p∈d'->p∈[0])->K (.int .i64 (oA b s [a,c,e,f])) [some (.cells bkT (bkC all (jZ b s [a,c,e,f]))),some (.cells t [.str a,.str c,.str e,.str f])] d'):
  n9 6 y5 3 83 [.ptr 0 0,.str s,.arr 1 0 4 4] [some (.cells bkT (bkC all b)),some (.cells t [.str a,.str c,.str e,.str f])] K:=by
 rw [aBG]
 cases hc:b.err==0 with
 |false=>
  obtain ⟨t1,t2⟩:=H8 (s:=s) (ws:=[a,c,e,f]) hc
  rw [t1,t2] at hK;exact hK [] qK
 |true=>
  refine Br.of (fun e=>by cases e) fun _=> ?_
  refine Br.of (fun h=> ?_) fun h0=> ?_
  ·obtain ⟨t1,t2⟩:=j8 (ws:=[a,c,e,f]) (j:=0) hc (by rw [pO h]) (by simp)
   rw [t1,t2] at hK;exact hK [] qK
  refine Br.of (fun h=> ?_) fun h1=> ?_
  ·obtain ⟨t1,t2⟩:=j8 (ws:=[a,c,e,f]) (j:=1) hc (by rw [iB h0,pO h]) (by simp)
   rw [t1,t2] at hK;exact hK [] qK
  refine Br.of (fun h=> ?_) fun h2=> ?_
  ·obtain ⟨t1,t2⟩:=j8 (ws:=[a,c,e,f]) (j:=2) hc (by rw [iB h0,iB h1,pO h]) (by simp)
   rw [t1,t2] at hK;exact hK [] qK
  refine Br.of (fun h=> ?_) fun h3=> ?_
  ·obtain ⟨t1,t2⟩:=j8 (ws:=[a,c,e,f]) (j:=3) hc (by rw [iB h0,iB h1,iB h2,pO h]) (by simp)
   rw [t1,t2] at hK;exact hK [] qK
  obtain ⟨t1,t2⟩:=BX (ws:=[a,c,e,f]) hc (by rw [iB h0,iB h1,iB h2,iB h3];rfl)
  rw [t1,t2] at hK
  exact Br.of (fun _=>hK [0] CV) fun e=>by cases e
def cOn :List SV->List (Option SB)->KC->Prop
 | [.ptr 0 0,.str s,.arr 1 0 1 1],[some (.cells 130 cs),some (.cells t [.str a])],K=> ∃(b:Bk) (all:Int),cs=bkC all b/\K (.int .i64 (oA b s [a])) [some (.cells 130 (bkC all (jZ b s [a]))),some (.cells t [.str a])] [0]
 | [.ptr 0 0,.str s,.arr 1 0 2 2],[some (.cells 130 cs),some (.cells t [.str a,.str c])],K=> ∃(b:Bk) (all:Int),cs=bkC all b/\K (.int .i64 (oA b s [a,c])) [some (.cells 130 (bkC all (jZ b s [a,c]))),some (.cells t [.str a,.str c])] [0]
 | [.ptr 0 0,.str s,.arr 1 0 4 4],[some (.cells 130 cs),some (.cells t [.str a,.str c,.str e,.str f])],K=> ∃(b:Bk) (all:Int),cs=bkC all b/\K (.int .i64 (oA b s [a,c,e,f])) [some (.cells 130 (bkC all (jZ b s [a,c,e,f]))),some (.cells t [.str a,.str c,.str e,.str f])] [0]
 |_,_,_=>False
theorem WC(xs:List SV)(σ:List (Option SB)):Sat Tryz.prog 83 xs σ (cOn xs σ):=by
 intro K hK
 unfold cOn at hK
 split at hK
 case h_4=>exact hK.elim
 all_goals obtain ⟨b,all,rfl,hK⟩:=hK
 ·exact wW (B:=y5) (n:=3) (u:=fun _=>3) (Φ:=fun K=>K _ _ [0]) [0] pW (fun K hK=>XJ fun d' hd=>⟨hd,hK⟩) K hK
 ·exact wW (B:=y5) (n:=3) (u:=fun _=>4) (Φ:=fun K=>K _ _ [0]) [0] pW (fun K hK=>aAn fun d' hd=>⟨hd,hK⟩) K hK
 ·exact wW (B:=y5) (n:=3) (u:=fun _=>6) (Φ:=fun K=>K _ _ [0]) [0] pW (fun K hK=>aAC fun d' hd=>⟨hd,hK⟩) K hK
noncomputable def y8 :bT Tryz.prog:=(y7).add 83 cOn WC
end Go.Proofs.YtghnfjfkjhbgdaaGreatDoor
namespace Go.Se
structure Trk where
 rate:Int
 cell:Int
 cols:Int
 rows:Int
 cx:Int
 cy:Int
 nh:Nat
 h:Nat->Int
 ng:Nat
 g:Nat->Int
 nk:Nat
 kg:Nat->Int
 kd:Nat->Int
 ko:Nat->Bool
 nl:Nat
 lx:Nat->Int
 ly:Nat->Int
 nr:Nat
 rn:Nat->Nat
 rx:Nat->Nat->Int
 ry:Nat->Nat->Int
 nt:Nat
 ax:Nat->Int
 ay:Nat->Int
 bx:Nat->Int
 sb:Nat->Int
 sp:Nat->Bool
 sx:Int
 sy:Int
 head:Int
 laps:Int
def bS(x y:Nat->Int):Nat->List SV:=fun k=>[.int .i64 (x k),.int .i64 (y k)]
def cH(t:Trk):Nat->List SV:=fun i=>[.ro (t.rn i) 2 (bS (t.rx i) (t.ry i))]
def eV(t:Trk):Nat->List SV:=fun i=>[.int .i64 (t.ax i),.int .i64 (t.ay i),.int .i64 (t.bx i),.int .i64 (t.sb i),.bool (t.sp i)]
def eY(t:Trk):Nat->List SV:=fun i=>[.int .i64 (t.kg i),.int .i64 (t.kd i),.bool (t.ko i)]
def aP(x:Nat->Int):Nat->List SV:=fun i=>[.int .i64 (x i)]
def aM(t:Trk):List SV:=
 [.int .i64 t.rate,.int .i64 t.cell,.int .i64 t.cols,.int .i64 t.rows,.int .i64 t.cx,.int .i64 t.cy,.ro t.nh 1 (aP t.h),.ro t.ng 1 (aP t.g),.ro t.nk 3 (eY t),.ro t.nl 2 (bS t.lx t.ly),
  .ro t.nr 1 (cH t),.ro t.nt 5 (eV t),.int .i64 t.sx,.int .i64 t.sy,.int .u32 t.head,.int .i64 t.laps]
abbrev Bar :=Int×Int×Int×Int×Int
def bsv(b:Bar):List SV:=[.int .i64 b.1,.int .i64 b.2.1,.int .i64 b.2.2.1,.int .i64 b.2.2.2.1,.int .i64 b.2.2.2.2]
def aAj(t:Trk)(i k:Nat):Bar:=(t.rx i k,t.ry i k,t.rx i (k+1),t.ry i (k+1),(i:Int))
def aGg(l:List Bar):List SV:=l.flatMap bsv
end Go.Se
namespace Go.Se
def sR(x y:Int):Bool:=decide ((if y>x then y else x)>281474976710656)||decide ((if y<x then y else x)< -281474976710656)
def bE(X Y:Nat->Int):Nat->List SV:=fun i=>[.int .i64 (X i),.int .i64 (Y i)]
def px :List SV->Int
 | .int _ x::_=>x
 |_=>0
def py :List SV->Int
 |_:: .int _ y::_=>y
 |_=>0
def pts(get:Nat->List SV):Prop:= ∀i,get i=[.int .i64 (px (get i)),.int .i64 (py (get i))]
theorem xG{get:Nat->List SV}(h:pts get):get=bE (fun i=>px (get i)) (fun i=>py (get i)):=funext h
end Go.Se
namespace Go.Se
end Go.Se
namespace Go.Se
def yG(n d:Int):Int:=(n+d - 1)/d
def sE(ax ay bx ey x y:Int):Int:=(bx - ax)*(y - ay) - (ey - ay)*(x - ax)
def uR(ax ay bx ey x y:Int):Int:=(bx - ax)*(x - ax)+(ey - ay)*(y - ay)
def EB(ax ay bx ey x y:Int):Bool:=sR ax ay||(sR bx ey||sR x y)
def OT(ax ay bx ey x y:Int):Int:=
 bif EB ax ay bx ey x y then 0
 else bif decide (0<=sE ax ay bx ey x y)||(decide (uR ax ay bx ey x y<0)||decide (uR bx ey ax ay x y<0)) then 0
 else yG (-sE ax ay bx ey x y) (hJ (uR ax ay bx ey bx ey))
theorem DE{x y:Int}:sR x y=false↔(-281474976710656<=x/\x<=281474976710656)/\(-281474976710656<=y/\y<=281474976710656):=by
 unfold sR
 simp only [Bool.or_eq_false_iff,decide_eq_false_iff_not]
 split<;>split<;>omega
theorem BL{a b N M:Int}(h1: -N<=a)(h2:a<=N)(h3: -M<=b)(h4:b<=M): -(N*M)<=a*b/\a*b<=N*M:=by
 have e1:=Int.mul_nonneg (show 0<=N - a by omega) (show 0<=M+b by omega)
 have e2:=Int.mul_nonneg (show 0<=N+a by omega) (show 0<=M - b by omega)
 have e3:=Int.mul_nonneg (show 0<=N - a by omega) (show 0<=M - b by omega)
 have e4:=Int.mul_nonneg (show 0<=N+a by omega) (show 0<=M+b by omega)
 simp only [Int.sub_mul,Int.add_mul,Int.mul_add,Int.mul_sub] at e1 e2 e3 e4
 omega
theorem yD{a b:Int}(h1: -562949953421312<=a)(h2:a<=562949953421312)(h3: -562949953421312<=b)(h4:b<=562949953421312):
  -316912650057057350374175801344<=a*b/\a*b<=316912650057057350374175801344:=by
 have:=BL h1 h2 h3 h4
 omega
theorem qO{A L q:Int}(hL:0<L)(h1:(q - 1)*L<A)(h2:A<=q*L):yG A L=q:=by
 unfold yG
 have a1:q<=(A+L - 1)/L:=by
  rw [Int.le_ediv_iff_mul_le hL]
  rw [Int.sub_mul] at h1;omega
 have a2:(A+L - 1)/L<q+1:=by
  rw [Int.ediv_lt_iff_lt_mul hL,Int.add_mul];omega
 omega
theorem Z7{A L:Int}(_hA:0<=A)(hL:0<L):(bif decide (iR A L*L<A) then iR A L+1 else iR A L)=yG A L:=by
 have h1:=Int.ediv_mul_add_emod A L
 have h2:=Int.emod_nonneg A (show L≠0 by omega)
 have h3:=Int.emod_lt_of_pos A hL
 unfold iR
 cases hc:(decide (A%L>L - A%L)||(A%L==L - A%L&&A/L%2==1))&&decide (A%L>0) with
 |true=>
  simp only [Bool.and_eq_true,decide_eq_true_eq] at hc
  simp only [cond_true]
  have e:(A/L+1)*L=A/L*L+L:=by rw [Int.add_mul,Int.one_mul]
  rw [decide_eq_false (by omega)]
  simp only [cond_false]
  exact (qO hL (by rw [show A/L+1 - 1=A/L by omega];omega) (by omega)).symm
 |false=>
  simp only [cond_false]
  cases hd:decide (A/L*L<A) with
  |true=>
   have hd':=of_decide_eq_true hd
   have e:(A/L+1)*L=A/L*L+L:=by rw [Int.add_mul,Int.one_mul]
   simp only [cond_true]
   exact (qO hL (by rw [show A/L+1 - 1=A/L by omega];omega) (by omega)).symm
  |false=>
   have hd':=of_decide_eq_false hd
   have e:(A/L - 1)*L=A/L*L - L:=by rw [Int.sub_mul,Int.one_mul]
   simp only [cond_false]
   exact (qO hL (by omega) (by omega)).symm
theorem P3{x y:Int}(hx: -562949953421312<=x/\x<=562949953421312)(hy: -562949953421312<=y/\y<=562949953421312):
  (-hJ (x*x+y*y)<=x/\x<=hJ (x*x+y*y))/\(-hJ (x*x+y*y)<=y/\y<=hJ (x*x+y*y))/\0<=hJ (x*x+y*y)/\hJ (x*x+y*y)<=1125899906842624:=by
 have m1:=yD hx.1 hx.2 hx.1 hx.2
 have m2:=yD hy.1 hy.2 hy.1 hy.2
 have s1:=aAq x
 have s2:=aAq y
 obtain ⟨r0,_,r1,r2⟩:=YE (N:=x*x+y*y) (by omega) (by omega)
 generalize hJ (x*x+y*y)=L at*
 have key: ∀z:Int,z*z<=x*x+y*y->  -L<=z/\z<=L:=by
  intro z hz
  constructor
  ·refine Int.not_lt.1 fun h=> ?_
   have:=Int.mul_le_mul (show L+1<=  -z by omega) (show L+1<=  -z by omega) (by omega) (by omega)
   rw [Int.neg_mul_neg] at this;omega
  ·refine Int.not_lt.1 fun h=> ?_
   have:=Int.mul_le_mul (show L+1<=z by omega) (show L+1<=z by omega) (by omega) (by omega)
   omega
 refine ⟨key x (by omega),key y (by omega),r0,Int.not_lt.1 fun h=> ?_⟩
 have:=Int.mul_le_mul (show (1125899906842625:Int)<=L by omega) (show (1125899906842625:Int)<=L by omega) (by omega) (by omega)
 omega
theorem tT{ax ay bx ey x y:Int}(h:EB ax ay bx ey x y=false):
  ((-562949953421312<=bx - ax/\bx - ax<=562949953421312)/\(-562949953421312<=ey - ay/\ey - ay<=562949953421312))/\
  ((-562949953421312<=x - ax/\x - ax<=562949953421312)/\(-562949953421312<=y - ay/\y - ay<=562949953421312))/\
  ((-562949953421312<=x - bx/\x - bx<=562949953421312)/\(-562949953421312<=y - ey/\y - ey<=562949953421312)):=by
 unfold EB at h
 rw [Bool.or_eq_false_iff,Bool.or_eq_false_iff] at h
 obtain ⟨h1,h2,h3⟩:=h
 have:=DE.1 h1
 have:=DE.1 h2
 have:=DE.1 h3
 omega
theorem PO{ax ay bx ey x y:Int}(h:EB ax ay bx ey x y=false): -633825300114114700748351602688<=sE ax ay bx ey x y/\sE ax ay bx ey x y<=633825300114114700748351602688:=by
 obtain ⟨⟨h1,h2⟩,⟨h3,h4⟩,_⟩:=tT h
 have m1:=yD h1.1 h1.2 h4.1 h4.2
 have m2:=yD h2.1 h2.2 h3.1 h3.2
 unfold sE;omega
theorem VM{ax ay bx ey x y:Int}(h:EB ax ay bx ey x y=false)(hA:sE ax ay bx ey x y<0):
  0<hJ (uR ax ay bx ey bx ey)/\hJ (uR ax ay bx ey bx ey)<=1125899906842624/\  -sE ax ay bx ey x y<=1125899906842624*hJ (uR ax ay bx ey bx ey):=by
 obtain ⟨⟨h1,h2⟩,⟨h3,h4⟩,_⟩:=tT h
 obtain ⟨l1,l2,l3,l4⟩:=P3 h1 h2
 unfold uR
 generalize hJ ((bx - ax)*(bx - ax)+(ey - ay)*(ey - ay))=L at*
 have m1:=BL l1.1 l1.2 h4.1 h4.2
 have m2:=BL l2.1 l2.2 h3.1 h3.2
 unfold sE at hA|-
 have:0<L:=by
  refine Int.not_le.1 fun h0=> ?_
  have:L=0:=by omega
  subst this
  omega
 omega
end Go.Se
namespace Go.Se
def wvw(p:Int):Int:=wv (p/18446744073709551616) (p%18446744073709551616)
theorem qD(p:Int):wvw p=p:=qA p
def aCD(p q:Int):Int:=bif fN (wvw p+wvw q) then wvw p+wvw q else 0
def aB5(p:Int):Int:=bif fN (-wvw p) then -wvw p else 0
theorem QG{p q:Int}(h: -170141183460469231731687303715884105728<=p+q)(h':p+q<170141183460469231731687303715884105728):aCD p q=p+q:=by
 unfold aCD;rw [qD,qD,show fN (p+q)=true from (x6 _).2 ⟨h,h'⟩];rfl
theorem RM{p:Int}(h: -170141183460469231731687303715884105728<p)(h':p<170141183460469231731687303715884105728):aB5 p= -p:=by
 unfold aB5;rw [qD,show fN (-p)=true from (x6 _).2 ⟨by omega,by omega⟩];rfl
def w64(x:Int):Int:=IntKind.i64.wrap x
theorem rW{x:Int}(h: -9223372036854775808<=x)(h':x<=9223372036854775807):w64 x=x:=by unfold w64;rw [gY];omega
def OP(ux uy vx vy:Int):Int:=aCD (ux*vx) (uy*vy)
def A4(ux uy vx vy:Int):Int:=aCD (ux*vy) (aB5 (uy*vx))
def AO(ax ay bx ey x y:Int):Int:=A4 (w64 (bx - ax)) (w64 (ey - ay)) (w64 (x - ax)) (w64 (y - ay))
def E9(ax ay bx ey x y:Int):Int:=OP (w64 (bx - ax)) (w64 (ey - ay)) (w64 (x - ax)) (w64 (y - ay))
theorem W7{ax ay bx ey x y:Int}(h:EB ax ay bx ey x y=false):AO ax ay bx ey x y=sE ax ay bx ey x y:=by
 obtain ⟨⟨h1,h2⟩,⟨h3,h4⟩,_⟩:=tT h
 have m1:=yD h1.1 h1.2 h4.1 h4.2
 have m2:=yD h2.1 h2.2 h3.1 h3.2
 unfold AO A4 sE
 rw [rW (by omega) (by omega),rW (by omega) (by omega),rW (by omega) (by omega),rW (by omega) (by omega),RM (by omega) (by omega),QG (by omega) (by omega)]
 omega
theorem C2 {ax ay bx ey x y:Int} (h1: -562949953421312<=bx - ax/\bx - ax<=562949953421312) (h2: -562949953421312<=ey - ay/\ey - ay<=562949953421312)
  (h3: -562949953421312<=x - ax/\x - ax<=562949953421312) (h4: -562949953421312<=y - ay/\y - ay<=562949953421312):E9 ax ay bx ey x y=uR ax ay bx ey x y:=by
 have m1:=yD h1.1 h1.2 h3.1 h3.2
 have m2:=yD h2.1 h2.2 h4.1 h4.2
 unfold E9 OP uR
 rw [rW (by omega) (by omega),rW (by omega) (by omega),rW (by omega) (by omega),rW (by omega) (by omega),QG (by omega) (by omega)]
theorem GP{x:Int}:decide (mJ x 0>=0)=decide (0<=x):=by
 unfold mJ
 cases h:decide (x<0)
 ·have h':=of_decide_eq_false h
  rw [decide_eq_true (show 0<=x by omega)]
  simp only [cond_false];cases decide (0<x)<;>rfl
 ·have h':=of_decide_eq_true h
  rw [decide_eq_false (show¬0<=x by omega)];rfl
end Go.Se
namespace Go.Se
def pz :List SV->Bool
 |_::_:: .bool b::_=>b
 |_=>false
def qC(g:Nat->List SV):Prop:= ∀i,g i=[.int .i64 (px (g i))]
theorem vQ{g:Nat->List SV}(h:qC g):g=aP (fun i=>px (g i)):=funext h
def H7(g:Nat->List SV):Prop:= ∀i,g i=[.int .i64 (px (g i)),.int .i64 (py (g i)),.bool (pz (g i))]
def QJ(a b:Nat->Int)(o:Nat->Bool):Nat->List SV:=fun i=>[.int .i64 (a i),.int .i64 (b i),.bool (o i)]
theorem XS{g:Nat->List SV}(h:H7 g):g=QJ (fun i=>px (g i)) (fun i=>py (g i)) (fun i=>pz (g i)):=funext h
def aBi :List SV->Nat
 | .ro n _ _::_=>n
 |_=>0
def aCt :List SV->Nat->List SV
 | .ro _ _ g::_=>g
 |_=>fun _=>[]
def at3 :List SV->Int
 |_::_:: .int _ x::_=>x
 |_=>0
def at4 :List SV->Int
 |_::_::_:: .int _ x::_=>x
 |_=>0
def at5 :List SV->Bool
 |_::_::_::_:: .bool x::_=>x
 |_=>false
def aD6(g:Nat->List SV):Prop:= ∀i,g i=[.ro (aBi (g i)) 2 (bS (fun k=>px (aCt (g i) k)) (fun k=>py (aCt (g i) k)))]
def aET(g:Nat->List SV):Prop:= ∀i,g i=[.int .i64 (px (g i)),.int .i64 (py (g i)),.int .i64 (at3 (g i)),.int .i64 (at4 (g i)),.bool (at5 (g i))]
def mC(a0 a1 a2 a3 a4 a5:Int)(nh:Nat)(h:Nat->List SV)(ng:Nat)(g:Nat->List SV)(nk:Nat)(kg:Nat->List SV)(nl:Nat)(l:Nat->List SV)(nr:Nat)(rl:Nat->List SV)(nt:Nat)(gt:Nat->List SV)(sx sy hd lp:Int):Trk where
 rate:=a0
 cell:=a1
 cols:=a2
 rows:=a3
 cx:=a4
 cy:=a5
 nh:=nh
 h:=fun i=>px (h i)
 ng:=ng
 g:=fun i=>px (g i)
 nk:=nk
 kg:=fun i=>px (kg i)
 kd:=fun i=>py (kg i)
 ko:=fun i=>pz (kg i)
 nl:=nl
 lx:=fun i=>px (l i)
 ly:=fun i=>py (l i)
 nr:=nr
 rn:=fun i=>aBi (rl i)
 rx:=fun i k=>px (aCt (rl i) k)
 ry:=fun i k=>py (aCt (rl i) k)
 nt:=nt
 ax:=fun i=>px (gt i)
 ay:=fun i=>py (gt i)
 bx:=fun i=>at3 (gt i)
 sb:=fun i=>at4 (gt i)
 sp:=fun i=>at5 (gt i)
 sx:=sx
 sy:=sy
 head:=hd
 laps:=lp
def kE(h g kg l rl gt:Nat->List SV):Prop:=qC h/\qC g/\H7 kg/\pts l/\aD6 rl/\aET gt
theorem k9{h g kg l rl gt:Nat->List SV}(hs:kE h g kg l rl gt)(a0 a1 a2 a3 a4 a5:Int)(nh ng nk nl nr nt:Nat)(sx sy hd lp:Int):
  [SV.int .i64 a0,.int .i64 a1,.int .i64 a2,.int .i64 a3,.int .i64 a4,.int .i64 a5,.ro nh 1 h,.ro ng 1 g,.ro nk 3 kg,.ro nl 2 l,.ro nr 1 rl,.ro nt 5 gt,.int .i64 sx,.int .i64 sy,.int .u32 hd,.int .i64 lp]=
   aM (mC a0 a1 a2 a3 a4 a5 nh h ng g nk kg nl l nr rl nt gt sx sy hd lp):=by
 obtain ⟨h1,h2,h3,h4,h5,h6⟩:=hs
 have e1:h=aP (fun i=>px (h i)):=funext h1
 have e2:g=aP (fun i=>px (g i)):=funext h2
 have e3:kg=eY (mC a0 a1 a2 a3 a4 a5 nh h ng g nk kg nl l nr rl nt gt sx sy hd lp):=funext h3
 have e4:l=bS (fun i=>px (l i)) (fun i=>py (l i)):=funext h4
 have e5:rl=cH (mC a0 a1 a2 a3 a4 a5 nh h ng g nk kg nl l nr rl nt gt sx sy hd lp):=funext h5
 have e6:gt=eV (mC a0 a1 a2 a3 a4 a5 nh h ng g nk kg nl l nr rl nt gt sx sy hd lp):=funext h6
 unfold aM
 rw [<- e3,<- e5,<- e6]
 show [SV.int .i64 a0,.int .i64 a1,.int .i64 a2,.int .i64 a3,.int .i64 a4,.int .i64 a5,.ro nh 1 h,.ro ng 1 g,.ro nk 3 kg,.ro nl 2 l,.ro nr 1 rl,.ro nt 5 gt,.int .i64 sx,.int .i64 sy,.int .u32 hd,.int .i64 lp]=[SV.int .i64 a0,.int .i64 a1,.int .i64 a2,.int .i64 a3,.int .i64 a4,.int .i64 a5,.ro nh 1 (aP (fun i=>px (h i))),.ro ng 1 (aP (fun i=>px (g i))),.ro nk 3 kg,.ro nl 2 (bS (fun i=>px (l i)) (fun i=>py (l i))),.ro nr 1 rl,.ro nt 5 gt,.int .i64 sx,.int .i64 sy,.int .u32 hd,.int .i64 lp]
 rw [<- e1,<- e2,<- e4]
theorem fT(t:Trk):kE (aP t.h) (aP t.g) (eY t) (bS t.lx t.ly) (cH t) (eV t):=
 ⟨fun _=>rfl,fun _=>rfl,fun _=>rfl,fun _=>rfl,fun _=>rfl,fun _=>rfl⟩
def eJ(m x:Int):Bool:=decide (x>m)||decide (x<IntKind.i64.wrap (0 - m))
def t6(x y:Int):Bool:=decide ((if y>x then y else x)>140737488355328)||decide ((if y<x then y else x)< -140737488355328)
def uK(n:Nat)(k:Int):Bool:=decide (k<0)||decide (k>=n)
def EC(g d:Int):Bool:=decide ((if d<g then d else g)<0)||(decide (g>8589934592)||decide (d>4294967296))
theorem vX{K:KC}{c a b:Bool}{σ:List (Option SB)}{d:List Nat}:Br c (K (.bool a) σ d) (K (.bool b) σ d)=K (.bool (bif c then a else b)) σ d:=by cases c<;>rfl
theorem XR{K:KC}{a b:Bool}{σ:List (Option SB)}{d:List Nat}(h:K (.bool a) σ d)(e:b=a):K (.bool b) σ d:=e▸h
def lK(cols rows:Int)(nh ng nk:Nat):Bool:=
 decide (1<=cols/\cols<=64/\1<=rows/\rows<=64/\1<=nk/\nk<=8)&&((nh:Int)==IntKind.i64.wrap (IntKind.i64.wrap (cols+1)*IntKind.i64.wrap (rows+1))&&(ng:Int)==IntKind.i64.wrap (cols*rows))
theorem uE{cols rows:Int}{nh ng nk:Nat}(h:lK cols rows nh ng nk=true):((1<=cols/\cols<=64)/\(1<=rows/\rows<=64)/\(1<=nk/\nk<=8))/\
  (nh:Int)=(cols+1)*(rows+1)/\(ng:Int)=cols*rows/\nh=(cols+1).toNat*(rows+1).toNat/\nh<=4225/\ng<=4096:=by
 unfold lK at h
 simp only [Bool.and_eq_true,decide_eq_true_eq,beq_iff_eq] at h
 obtain ⟨⟨h1,h2,h3,h4,h5,h6⟩,h7,h8⟩:=h
 have m1:=BL (a:=cols+1) (b:=rows+1) (N:=65) (M:=65) (by omega) (by omega) (by omega) (by omega)
 have m2:=BL (a:=cols) (b:=rows) (N:=64) (M:=64) (by omega) (by omega) (by omega) (by omega)
 have hw: ∀x:Int,-10000<=x->x<=10000->IntKind.i64.wrap x=x:=fun x _ _=>by rw [IntKind.wrap_i64];omega
 rw [hw (cols+1) (by omega) (by omega),hw (rows+1) (by omega) (by omega),hw _ (by omega) (by omega)] at h7
 rw [hw _ (by omega) (by omega)] at h8
 refine ⟨⟨⟨h1,h2⟩,⟨h3,h4⟩,h5,h6⟩,h7,h8, ?_,by omega,by omega⟩
 have e1:((cols+1).toNat:Int)=cols+1:=Int.toNat_of_nonneg (by omega)
 have e2:((rows+1).toNat:Int)=rows+1:=Int.toNat_of_nonneg (by omega)
 apply Int.ofNat.inj
 show (nh:Int)=(((cols+1).toNat*(rows+1).toNat:Nat):Int)
 rw [Int.natCast_mul,e1,e2];exact h7
def lT(h:Nat->Int)(cell:Int)(w n i:Nat):Bool:=
 (decide ((i+1)%w≠0)&&eJ cell (IntKind.i64.wrap (h (i+1) - h i)))||(decide (i+w<n)&&eJ cell (IntKind.i64.wrap (h (i+w) - h i)))
theorem JC{n:Nat}(h:n<9223372036854775808):IntKind.i64.wrap (n:Int)=(n:Int):=by rw [IntKind.wrap_i64];omega
theorem ZX(a b:Nat):((a:Int).tmod (b:Int))=((a%b:Nat):Int):=by rw [Int.tmod_eq_emod_of_nonneg (Int.natCast_nonneg a)];exact (Int.natCast_emod a b).symm
theorem RA(a:Nat):((a:Int) !=0)=decide (a≠0):=by
 cases a with
 |zero=>rfl
 |succ n=>rw [decide_eq_true (Nat.succ_ne_zero n),bne_iff_ne];omega
theorem orQ{K:KC}{a b:Bool}{σ:List (Option SB)}{d:List Nat}(h:K (.bool (a||b)) σ d):Br a (K (.bool true) σ d) (K (.bool b) σ d):=
 Br.of (fun c=>by rw [c] at h;exact h) fun c=>by rw [c] at h;exact h
def mN(t:Trk):Bool:=
 decide (t.cell<17179869184)||(decide (t.cell>274877906944)||((eJ 140737488355328 t.cx||eJ 140737488355328 t.cy)||(iE (fun i=>eJ 2199023255552 (t.h i)) t.nh||
  (iE (lT t.h t.cell (t.cols+1).toNat t.nh) t.nh||(iE (fun i=>uK t.nk (t.g i)) t.ng||iE (fun i=>EC (t.kg i) (t.kd i)) t.nk)))))
def oP(t:Trk):Int:=bif lK t.cols t.rows t.nh t.ng t.nk then (bif mN t then 40 else 0) else 42
theorem E1{k:Nat}(h1:1<=k)(h2:k<9223372036854775808):IntKind.i64.wrap ((k:Int) - 1)=((k - 1:Nat):Int):=by rw [IntKind.wrap_i64];omega
def P9(X Y:Nat->Int)(i:Nat):Bool:=X (i+1)==X i&&Y (i+1)==Y i
def LP(X Y:Nat->Int)(n:Nat):Bool:=iE (P9 X Y) (n - 1)
theorem NV(k:Nat)(x y:Int)(X Y:Nat->Int):bI k [.int .i64 x,.int .i64 y] (bE X Y)=bE (fun j=>if j=k then x else X j) (fun j=>if j=k then y else Y j):=by
 funext j
 unfold bI bE
 by_cases h:j=k
 ·rw [decide_eq_true h];simp only [if_pos h,cond_true]
 ·rw [decide_eq_false h];simp only [if_neg h,cond_false]
def nS(n:Nat)(X Y:Nat->Int):Int:=
 bif decide ((n:Int)<3) then 42 else bif decide ((n:Int)>64) then 42 else bif iE (fun i=>sR (X i) (Y i)) n then 40 else 0
def QB(t:Trk):Bool:=decide (60<=t.rate)&&decide (t.rate<=1024)
def GR(t:Trk):Bool:=iE (fun i=>t6 (t.lx i) (t.ly i)) t.nl
def hC(t:Trk):Int:=bif !QB t then 40 else bif oP t !=0 then oP t else bif nS t.nl t.lx t.ly !=0 then nS t.nl t.lx t.ly else bif GR t then 40 else 0
def DH(t:Trk)(i:Nat):Int:=
 bif !(decide ((2:Int)<=t.rn i)&&decide ((t.rn i:Int)<=64)) then 42 else bif iE (fun k=>t6 (t.rx i k) (t.ry i k)) (t.rn i) then 40 else bif LP (t.rx i) (t.ry i) (t.rn i) then 43 else 0
def ME(t:Trk)(i:Nat):Int:=
 bif t6 (t.ax i) (t.ay i)||t6 (t.bx i) (t.sb i) then 40 else bif t.ax i==t.bx i&&t.ay i==t.sb i then 43 else 0
def uB(c:Nat->Int):Nat->Nat->Int×Int
 |0,_=>(0,0)
 |f+1,i=>bif c i !=0 then (c i,(i:Int)) else uB c f (i+1)
def oH(t:Trk):Int×Int:=bif decide ((t.nr:Int)>16) then (42,0) else uB (DH t) t.nr 0
def oI(t:Trk):Int×Int:=bif !(decide ((1:Int)<=t.nt)&&decide ((t.nt:Int)<=16)) then (42,0) else uB (ME t) t.nt 0
theorem LR{c:Nat->Int}{n i:Nat}(hi:i<n):uB c (n - i) i=bif c i !=0 then (c i,(i:Int)) else uB c (n - (i+1)) (i+1):=by
 rw [show n - i=(n - (i+1))+1 by omega];rfl
theorem aBn{c:Nat->Int}{n i:Nat}{v:Int}(hi:i<n)(h:c i=v)(hv:(v !=0)=true):uB c (n - i) i=(v,(i:Int)):=by
 rw [LR hi,h,hv];rfl
theorem JI{c:Nat->Int}{n i:Nat}(hi:i<n)(h:c i=0):uB c (n - i) i=uB c (n - (i+1)) (i+1):=by
 rw [LR hi,h];rfl
def mP(t:Trk)(i k:Nat):List Bar:=(List.range k).map (aAj t i)
def nX(t:Trk):Nat->List Bar
 |0=>[]
 |i+1=>nX t i++mP t i (t.rn i - 1)
theorem AI(t:Trk)(i k:Nat):mP t i (k+1)=mP t i k++[aAj t i k]:=by
 unfold mP;rw [List.range_succ,List.map_append];rfl
theorem FF(t:Trk)(i k:Nat):(mP t i k).length=k:=by unfold mP;simp
theorem s8{t:Trk}{m:Nat}(h: ∀i,i<t.nr->t.rn i<=m): ∀n,n<=t.nr->(nX t n).length<=n*m
 |0,_=>Nat.zero_le _
 |n+1,hn=>by
  show (nX t n++mP t n (t.rn n - 1)).length<=_
  rw [List.length_append,FF,Nat.add_mul,Nat.one_mul]
  have h1:=s8 h n (by omega)
  have h2:=h n (by omega)
  omega
def wN(t:Trk):List Bar:=nX t t.nr
def iJ(t:Trk):Prop:=t.nr<=20/\ ∀i,i<t.nr->t.rn i<=100
theorem wR{r:Nat}(h:r<9223372036854775808):(if 0>IntKind.i64.wrap ((r:Int) - 1) then 0 else IntKind.i64.wrap ((r:Int) - 1))=((r - 1:Nat):Int):=by
 rw [IntKind.wrap_i64];split<;>omega
theorem J3(t:Trk)(i k:Nat):[SV.int .i64 (t.rx i k),.int .i64 (t.ry i k),.int .i64 (t.rx i (k+1)),.int .i64 (t.ry i (k+1)),.int .i64 i]=bsv (aAj t i k):=rfl
def xL :Bar:=(0,0,0,0,0)
def G8(L:List Bar):Nat->List SV:=aY bsv xL L
def vS(t:Trk)(b:Bar):Bool:=decide (0<OT b.1 b.2.1 b.2.2.1 b.2.2.2.1 t.sx t.sy)&&decide (OT b.1 b.2.1 b.2.2.1 b.2.2.2.1 t.sx t.sy<=17179869184)
def qH(t:Trk):Bool:=iE (fun i=>vS t ((wN t).getD i xL)) (wN t).length
def aCB(t:Trk):Bool:=
 decide (t.sx<t.cx)||(decide (t.sy<t.cy)||(decide (t.sx>IntKind.i64.wrap (t.cx+IntKind.i64.wrap (t.cols*t.cell)))||decide (t.sy>IntKind.i64.wrap (t.cy+IntKind.i64.wrap (t.rows*t.cell)))))
def LZ(t:Trk):Bool:=decide (1<=t.laps)&&decide (t.laps<=100)
def oB(t:Trk):Int×Int:=bif aCB t then (40,0) else bif qH t then (43,0) else bif !LZ t then (40,0) else (0,0)
def orV(a b:Int×Int):Int×Int:=bif a.1 !=0 then a else b
def cD(t:Trk):Int×Int:=orV (hC t,0) (orV (oH t) (orV (oI t) (oB t)))
end Go.Se
namespace Go.Se
theorem AT{a b:Int×Int}(h:(orV a b).1=0):a.1=0/\b.1=0:=by
 unfold orV at h
 cases hc:a.1 !=0
 ·rw [hc] at h
  refine ⟨?_,h⟩
  by_cases hx:a.1=0
  ·exact hx
  ·rw [bne_iff_ne.2 hx] at hc;cases hc
 ·rw [hc] at h
  rw [bne_iff_ne] at hc
  exact absurd h hc
end Go.Se
namespace Go.Se
def eK(x:Int):List SV:=[.int .i64 x]
def plL(x:Int×Int):List SV:=[.int .i64 x.1,.int .i64 x.2]
def kiL(x:Int×Int×Bool):List SV:=[.int .i64 x.1,.int .i64 x.2.1,.bool x.2.2]
def gaL(x:Int×Int×Int×Int×Bool):List SV:=[.int .i64 x.1,.int .i64 x.2.1,.int .i64 x.2.2.1,.int .i64 x.2.2.2.1,.bool x.2.2.2.2]
def raL(x:List (Int×Int)):List SV:=[.ro x.length 2 (aY plL (0,0) x)]
def lY{α:Type}(st:Nat)(f:α->List SV)(d:α)(L:List α):SV:= .ro L.length st (aY f d L)
structure TL where
 rate:Int
 cell:Int
 cols:Int
 rows:Int
 corner:Int×Int
 heights:List Int
 ground:List Int
 kinds:List (Int×Int×Bool)
 line:List (Int×Int)
 rails:List (List (Int×Int))
 gates:List (Int×Int×Int×Int×Bool)
 start:Int×Int
 head:Int
 laps:Int
def TL.trk(t:TL):Trk:=mC t.rate t.cell t.cols t.rows t.corner.1 t.corner.2 t.heights.length (aY eK 0 t.heights) t.ground.length (aY eK 0 t.ground) t.kinds.length (aY kiL (0,0,false) t.kinds)
 t.line.length (aY plL (0,0) t.line) t.rails.length (aY raL [] t.rails) t.gates.length (aY gaL (0,0,0,0,false) t.gates) t.start.1 t.start.2 t.head t.laps
def TL.zero :TL:=⟨0,0,0,0,(0,0),[],[],[],[],[],[],(0,0),0,0⟩
def nHs(a b:Int):Int:=IntKind.i64.wrap (IntKind.i64.wrap (a+1)*IntKind.i64.wrap (b+1))
def nGs(a b:Int):Int:=IntKind.i64.wrap (a*b)
theorem TL.shape(t:TL):kE (aY eK 0 t.heights) (aY eK 0 t.ground) (aY kiL (0,0,false) t.kinds) (aY plL (0,0) t.line) (aY raL [] t.rails) (aY gaL (0,0,0,0,false) t.gates):=
 ⟨fun _=>rfl,fun _=>rfl,fun _=>rfl,fun _=>rfl,fun _=>rfl,fun _=>rfl⟩
def oZ(t u:Trk):Prop:=
 (t.rate=u.rate/\t.cell=u.cell/\t.cols=u.cols/\t.rows=u.rows/\t.cx=u.cx/\t.cy=u.cy/\t.nh=u.nh/\t.ng=u.ng/\t.nk=u.nk)/\
 (∀i,i<t.nh->t.h i=u.h i)/\(∀i,i<t.ng->t.g i=u.g i)/\(∀i,i<t.nk->t.kg i=u.kg i/\t.kd i=u.kd i/\t.ko i=u.ko i)/\
 (t.nl=u.nl/\ ∀i,i<t.nl->t.lx i=u.lx i/\t.ly i=u.ly i)/\(t.nr=u.nr/\ ∀i,i<t.nr->t.rn i=u.rn i/\ ∀k,k<t.rn i->t.rx i k=u.rx i k/\t.ry i k=u.ry i k)/\
 (t.nt=u.nt/\ ∀i,i<t.nt->t.ax i=u.ax i/\t.ay i=u.ay i/\t.bx i=u.bx i/\t.sb i=u.sb i/\t.sp i=u.sp i)/\(t.sx=u.sx/\t.sy=u.sy/\t.head=u.head/\t.laps=u.laps)
theorem PI(t:Trk):oZ t t:=
 ⟨⟨rfl,rfl,rfl,rfl,rfl,rfl,rfl,rfl,rfl⟩,fun _ _=>rfl,fun _ _=>rfl,fun _ _=>⟨rfl,rfl,rfl⟩,⟨rfl,fun _ _=>⟨rfl,rfl⟩⟩,⟨rfl,fun _ _=>⟨rfl,fun _ _=>⟨rfl,rfl⟩⟩⟩,⟨rfl,fun _ _=>⟨rfl,rfl,rfl,rfl,rfl⟩⟩,rfl,rfl,rfl,rfl⟩
theorem vZ{i n m:Nat}(hi:i<n)(hm:n=m){c:Bool}(hc:c=false){A N X:Prop}(h:N):
  Br (decide ((i:Int)<(n:Int))) (Br (decide (0<=(i:Int))&&decide ((i:Int)<(n:Int))) (Br (decide (0<=(i:Int))&&decide ((i:Int)<(m:Int))) (Br c A N) False) False) X:=by
 subst hm;subst hc
 exact Br.of (fun _=>Br.of (fun _=>Br.of (fun _=>h) fun c=>nH hi c) fun c=>nH hi c) fun c=>nF hi c
theorem HU{a b:Int}(h:a=b):(a !=b)=false:=by rw [h];exact bne_self_eq_false b
theorem T7{a b:Nat}(h:a=b):((a:Int) !=(b:Int))=false:=HU (by rw [h])
abbrev bY(x:Int):Prop:= -9223372036854775808<=x/\x<=9223372036854775807
structure aF8 (t:TL):Prop where
 rate:60<=t.rate/\t.rate<=1024
 cell:bY t.cell
 cols:1<=t.cols/\t.cols<=64
 rows:1<=t.rows/\t.rows<=64
 corner:bY t.corner.1/\bY t.corner.2
 nh:(nHs t.cols t.rows).toNat=t.heights.length
 heights: ∀x∈t.heights,bY x
 ng:(nGs t.cols t.rows).toNat=t.ground.length
 ground: ∀x∈t.ground,0<=x/\x<=7
 kinds:1<=(t.kinds.length:Int)/\(t.kinds.length:Int)<=8/\ ∀c∈t.kinds,bY c.1/\bY c.2.1
 line:3<=(t.line.length:Int)/\(t.line.length:Int)<=64/\ ∀c∈t.line,bY c.1/\bY c.2
 rails:0<=(t.rails.length:Int)/\(t.rails.length:Int)<=16/\ ∀l∈t.rails,2<=(l.length:Int)/\(l.length:Int)<=64/\ ∀c∈l,bY c.1/\bY c.2
 gates:1<=(t.gates.length:Int)/\(t.gates.length:Int)<=16/\ ∀c∈t.gates,bY c.1/\bY c.2.1/\bY c.2.2.1/\bY c.2.2.2.1
 start:bY t.start.1/\bY t.start.2
 head:0<=t.head/\t.head<=4294967295
 laps:1<=t.laps/\t.laps<=100
def lst{α:Type}(f:Nat->α)(n:Nat):List α:=(List.range n).map f
theorem dC{α:Type}(f:Nat->α)(n:Nat):(lst f n).length=n:=by simp [lst]
theorem mM{α:Type}{f:Nat->α}{n i:Nat}{d:α}(h:i<n):(lst f n).getD i d=f i:=by
 unfold lst;rw [List.getD_eq_getElem?_getD,List.getElem?_map,List.getElem?_range h];rfl
theorem jY{α:Type}{f:Nat->α}{n:Nat}{x:α}(h:x∈lst f n): ∃i,i<n/\x=f i:=by
 unfold lst at h
 obtain ⟨i,h1,h2⟩:=List.mem_map.1 h
 exact ⟨i,List.mem_range.1 h1,h2.symm⟩
theorem mW{α:Type}(l:List α)(d:α):lst (fun i=>l.getD i d) l.length=l:=by
 unfold lst
 apply List.ext_getElem?
 intro i
 rw [List.getElem?_map]
 by_cases h:i<l.length
 ·rw [List.getElem?_range h,Option.map_some,List.getD_eq_getElem?_getD,List.getElem?_eq_getElem h];rfl
 ·rw [List.getElem?_eq_none (by simpa using h),List.getElem?_eq_none (by omega)];rfl
def BW(t:Trk):TL:=⟨t.rate,t.cell,t.cols,t.rows,(t.cx,t.cy),lst t.h t.nh,lst t.g t.ng,lst (fun i=>(t.kg i,t.kd i,t.ko i)) t.nk,lst (fun i=>(t.lx i,t.ly i)) t.nl,
 lst (fun i=>lst (fun k=>(t.rx i k,t.ry i k)) (t.rn i)) t.nr,lst (fun i=>(t.ax i,t.ay i,t.bx i,t.sb i,t.sp i)) t.nt,(t.sx,t.sy),t.head,t.laps⟩
theorem IQ(t:TL):BW t.trk=t:=by
 obtain ⟨a,b,c,d,e,h,g,k,l,r,q,s,u,v⟩:=t
 have e1:lst (TL.trk ⟨a,b,c,d,e,h,g,k,l,r,q,s,u,v⟩).h h.length=h:=mW h 0
 have e2:lst (TL.trk ⟨a,b,c,d,e,h,g,k,l,r,q,s,u,v⟩).g g.length=g:=mW g 0
 have e3:lst (fun i=>((k.getD i (0,0,false)).1,(k.getD i (0,0,false)).2.1,(k.getD i (0,0,false)).2.2)) k.length=k:=mW k (0,0,false)
 have e4:lst (fun i=>((l.getD i (0,0)).1,(l.getD i (0,0)).2)) l.length=l:=mW l (0,0)
 have e5:lst (fun i=>lst (fun k=>(((r.getD i []).getD k (0,0)).1,((r.getD i []).getD k (0,0)).2)) (r.getD i []).length) r.length=r:=by
  have:(fun i=>lst (fun k=>(((r.getD i []).getD k (0,0)).1,((r.getD i []).getD k (0,0)).2)) (r.getD i []).length)=fun i=>r.getD i []:=funext fun i=>mW (r.getD i []) (0,0)
  rw [this];exact mW r []
 have e6:lst (fun i=>((q.getD i (0,0,0,0,false)).1,(q.getD i (0,0,0,0,false)).2.1,(q.getD i (0,0,0,0,false)).2.2.1,(q.getD i (0,0,0,0,false)).2.2.2.1,(q.getD i (0,0,0,0,false)).2.2.2.2)) q.length=q:=mW q (0,0,0,0,false)
 show TL.mk a b c d (e.1,e.2) _ _ _ _ _ _ (s.1,s.2) u v=TL.mk a b c d e h g k l r q s u v
 congr 1
theorem GJ(t:Trk):oZ t (BW t).trk:=by
 refine ⟨⟨rfl,rfl,rfl,rfl,rfl,rfl,(dC _ _).symm,(dC _ _).symm,(dC _ _).symm⟩,fun i hi=>(mM (d:=0) hi).symm,fun i hi=>(mM (d:=0) hi).symm,fun i hi=> ?_,⟨(dC _ _).symm,fun i hi=> ?_⟩,⟨(dC _ _).symm,fun i hi=> ?_⟩,⟨(dC _ _).symm,fun i hi=> ?_⟩,rfl,rfl,rfl,rfl⟩
 ·have e:(lst (fun i=>(t.kg i,t.kd i,t.ko i)) t.nk).getD i (0,0,false)=(t.kg i,t.kd i,t.ko i):=mM hi
  exact ⟨(congrArg (fun x=>x.1) e).symm,(congrArg (fun x=>x.2.1) e).symm,(congrArg (fun x=>x.2.2) e).symm⟩
 ·have e:(lst (fun i=>(t.lx i,t.ly i)) t.nl).getD i (0,0)=(t.lx i,t.ly i):=mM hi
  exact ⟨(congrArg (fun x=>x.1) e).symm,(congrArg (fun x=>x.2) e).symm⟩
 ·have e:(lst (fun i=>lst (fun k=>(t.rx i k,t.ry i k)) (t.rn i)) t.nr).getD i []=lst (fun k=>(t.rx i k,t.ry i k)) (t.rn i):=mM hi
  have e1:(BW t).trk.rn i=t.rn i:=(congrArg List.length e).trans (dC _ _)
  refine ⟨e1.symm,fun k hk=> ?_⟩
  have e2:((lst (fun i=>lst (fun k=>(t.rx i k,t.ry i k)) (t.rn i)) t.nr).getD i []).getD k (0,0)=(t.rx i k,t.ry i k):=by rw [e];exact mM hk
  exact ⟨(congrArg (fun x=>x.1) e2).symm,(congrArg (fun x=>x.2) e2).symm⟩
 ·have e:(lst (fun i=>(t.ax i,t.ay i,t.bx i,t.sb i,t.sp i)) t.nt).getD i (0,0,0,0,false)=(t.ax i,t.ay i,t.bx i,t.sb i,t.sp i):=mM hi
  exact ⟨(congrArg (fun x=>x.1) e).symm,(congrArg (fun x=>x.2.1) e).symm,(congrArg (fun x=>x.2.2.1) e).symm,(congrArg (fun x=>x.2.2.2.1) e).symm,(congrArg (fun x=>x.2.2.2.2) e).symm⟩
theorem F9{c:Nat->Int}: ∀{f i:Nat},(uB c f i).1=0-> ∀j,i<=j->j<i+f->c j=0
 |0,i,_,j,h1,h2=>by omega
 |f+1,i,h,j,h1,h2=>by
  unfold uB at h
  cases e:c i !=0 with
  |true=>
   rw [e] at h
   simp only [cond_true] at h
   rw [h] at e;exact absurd e (by decide)
  |false=>
   rw [e] at h
   rcases Nat.eq_or_lt_of_le h1 with rfl|h3
   ·exact bne_eq_false_iff_eq.1 e
   ·exact F9 h j h3 (by omega)
structure FZ (t:Trk):Prop where
 cell:bY t.cell
 corner:bY t.cx/\bY t.cy
 h: ∀i,i<t.nh->bY (t.h i)
 k: ∀i,i<t.nk->bY (t.kg i)/\bY (t.kd i)
 l: ∀i,i<t.nl->bY (t.lx i)/\bY (t.ly i)
 r: ∀i,i<t.nr-> ∀k,k<t.rn i->bY (t.rx i k)/\bY (t.ry i k)
 g: ∀i,i<t.nt->bY (t.ax i)/\bY (t.ay i)/\bY (t.bx i)/\bY (t.sb i)
 s:bY t.sx/\bY t.sy
 head:0<=t.head/\t.head<=4294967295
theorem L5{t:Trk}(h:okL (aM t)):FZ t:=by
 obtain ⟨_,h1,_,_,h2,h3,⟨_,h4⟩,_,⟨_,h5⟩,⟨_,h6⟩,⟨_,h7⟩,⟨_,h8⟩,h9,h10,h11,_⟩:=h
 exact {
  cell:=h1
  corner:=⟨h2,h3⟩
  h:=fun i hi=>(h4 i hi).1
  k:=fun i hi=>⟨(h5 i hi).1,(h5 i hi).2.1⟩
  l:=fun i hi=>⟨(h6 i hi).1,(h6 i hi).2.1⟩
  r:=fun i hi k hk=>⟨((h7 i hi).1.2 k hk).1,((h7 i hi).1.2 k hk).2.1⟩
  g:=fun i hi=>⟨(h8 i hi).1,(h8 i hi).2.1,(h8 i hi).2.2.1,(h8 i hi).2.2.2.1⟩
  s:=⟨h9,h10⟩
  head:=h11}
theorem HW{t:Trk}(h:(cD t).1=0)(hi:FZ t):aF8 (BW t):=by
 obtain ⟨g0,h⟩:=AT h
 obtain ⟨r0,h⟩:=AT h
 obtain ⟨t0,s0⟩:=AT h
 simp only at g0
 unfold hC at g0
 cases c1:QB t with
 |false=>rw [c1] at g0;exact absurd g0 (show¬(40:Int)=0 by decide)
 |true=>
 rw [c1] at g0
 simp only [Bool.not_true,cond_false] at g0
 cases c2:oP t !=0 with
 |true=>
  rw [c2] at g0
  simp only [cond_true] at g0
  rw [g0] at c2;exact absurd c2 (by decide)
 |false=>
 rw [c2] at g0
 simp only [cond_false] at g0
 cases c3:nS t.nl t.lx t.ly !=0 with
 |true=>
  rw [c3] at g0
  simp only [cond_true] at g0
  rw [g0] at c3;exact absurd c3 (by decide)
 |false=>
 have f0:=bne_eq_false_iff_eq.1 c2
 have l0:=bne_eq_false_iff_eq.1 c3
 unfold oP at f0
 cases c4:lK t.cols t.rows t.nh t.ng t.nk with
 |false=>rw [c4] at f0;exact absurd f0 (show¬(42:Int)=0 by decide)
 |true=>
 rw [c4] at f0
 simp only [cond_true] at f0
 cases c5:mN t with
 |true=>rw [c5] at f0;exact absurd f0 (show¬(40:Int)=0 by decide)
 |false=>
 obtain ⟨⟨k1,k2,k3⟩,n1,n2,n3,n4,n5⟩:=uE c4
 unfold mN at c5
 simp only [Bool.or_eq_false_iff] at c5
 obtain ⟨_,_,_,_,_,c6,_⟩:=c5
 have hg:=kT.1 c6
 unfold QB at c1
 simp only [Bool.and_eq_true,decide_eq_true_eq] at c1
 unfold nS at l0
 have hl:3<=t.nl/\t.nl<=64:=by
  cases d1:decide ((t.nl:Int)<3) with
  |true=>rw [d1] at l0;exact absurd l0 (show¬(42:Int)=0 by decide)
  |false=>
   rw [d1] at l0
   cases d2:decide ((t.nl:Int)>64) with
   |true=>rw [d2] at l0;exact absurd l0 (show¬(42:Int)=0 by decide)
   |false=>have:=of_decide_eq_false d1;have:=of_decide_eq_false d2;omega
 unfold oH at r0
 have hr:t.nr<=16/\ ∀i,i<t.nr->DH t i=0:=by
  cases d1:decide ((t.nr:Int)>16) with
  |true=>rw [d1] at r0;exact absurd r0 (show¬(42:Int)=0 by decide)
  |false=>
   rw [d1] at r0
   have:=of_decide_eq_false d1
   exact ⟨by omega,fun i hi=>F9 r0 i (Nat.zero_le _) (by omega)⟩
 have hrn: ∀i,i<t.nr->2<=t.rn i/\t.rn i<=64:=fun i hi=>by
  have e:=hr.2 i hi
  unfold DH at e
  cases d1:(decide ((2:Int)<=t.rn i)&&decide ((t.rn i:Int)<=64)) with
  |false=>rw [d1] at e;exact absurd e (show¬(42:Int)=0 by decide)
  |true=>
   simp only [Bool.and_eq_true,decide_eq_true_eq] at d1
   omega
 unfold oI at t0
 have ht:1<=t.nt/\t.nt<=16:=by
  cases d1:(decide ((1:Int)<=t.nt)&&decide ((t.nt:Int)<=16)) with
  |false=>rw [d1] at t0;exact absurd t0 (show¬(42:Int)=0 by decide)
  |true=>
   simp only [Bool.and_eq_true,decide_eq_true_eq] at d1
   omega
 have hlp:1<=t.laps/\t.laps<=100:=by
  unfold oB at s0
  cases d1:aCB t with
  |true=>rw [d1] at s0;exact absurd s0 (show¬(40:Int)=0 by decide)
  |false=>
   rw [d1] at s0
   cases d2:qH t with
   |true=>rw [d2] at s0;exact absurd s0 (show¬(43:Int)=0 by decide)
   |false=>
    rw [d2] at s0
    cases d3:LZ t with
    |false=>rw [d3] at s0;exact absurd s0 (show¬(40:Int)=0 by decide)
    |true=>
     unfold LZ at d3
     simp only [Bool.and_eq_true,decide_eq_true_eq] at d3
     exact d3
 have w: ∀x:Int,-10000<=x->x<=10000->IntKind.i64.wrap x=x:=fun x _ _=>by rw [IntKind.wrap_i64];omega
 have m1:=BL (a:=t.cols+1) (b:=t.rows+1) (N:=65) (M:=65) (by omega) (by omega) (by omega) (by omega)
 have m2:=BL (a:=t.cols) (b:=t.rows) (N:=64) (M:=64) (by omega) (by omega) (by omega) (by omega)
 exact {
  rate:=c1
  cell:=hi.cell
  cols:=k1
  rows:=k2
  corner:=hi.corner
  nh:=by
   show (nHs t.cols t.rows).toNat=(lst t.h t.nh).length
   unfold nHs
   rw [w (t.cols+1) (by omega) (by omega),w (t.rows+1) (by omega) (by omega),w _ (by omega) (by omega),dC];omega
  heights:=fun x hx=>by
   obtain ⟨i,h1,rfl⟩:=jY hx
   exact hi.h i h1
  ng:=by
   show (nGs t.cols t.rows).toNat=(lst t.g t.ng).length
   unfold nGs
   rw [w _ (by omega) (by omega),dC];omega
  ground:=fun x hx=>by
   obtain ⟨i,h1,rfl⟩:=jY hx
   have:=hg i h1
   unfold uK at this
   simp only [Bool.or_eq_false_iff,decide_eq_false_iff_not] at this
   omega
  kinds:=⟨by show 1<=((lst _ t.nk).length:Int);rw [dC];omega,by show ((lst _ t.nk).length:Int)<=8;rw [dC];omega,fun x hx=>by
   obtain ⟨i,h1,rfl⟩:=jY hx
   exact hi.k i h1⟩
  line:=⟨by show 3<=((lst _ t.nl).length:Int);rw [dC];omega,by show ((lst _ t.nl).length:Int)<=64;rw [dC];omega,fun x hx=>by
   obtain ⟨i,h1,rfl⟩:=jY hx
   exact hi.l i h1⟩
  rails:=⟨by show 0<=((lst _ t.nr).length:Int);rw [dC];omega,by show ((lst _ t.nr).length:Int)<=16;rw [dC];omega,fun x hx=>by
   obtain ⟨i,h1,rfl⟩:=jY hx
   have:=hrn i h1
   exact ⟨by rw [dC];omega,by rw [dC];omega,fun c hc=>by
    obtain ⟨k,h2,rfl⟩:=jY hc
    exact hi.r i h1 k h2⟩⟩
  gates:=⟨by show 1<=((lst _ t.nt).length:Int);rw [dC];omega,by show ((lst _ t.nt).length:Int)<=16;rw [dC];omega,fun x hx=>by
   obtain ⟨i,h1,rfl⟩:=jY hx
   exact hi.g i h1⟩
  start:=hi.s
  head:=hi.head
  laps:=hlp}
theorem yN{P:Program}{k:FuncId}{xs xs':List SV}{σ:List (Option SB)}{v:SV}{σ':List (Option SB)}{d:List Nat}(h: ∀ρ T w l,aQ ρ T w xs l->aQ ρ T w xs' l)(hc:aD P k xs' σ v σ' d):aD P k xs σ v σ' d:=
 fun ρ T w vals h1 h2 h3 h4=>hc ρ T w vals (h _ _ _ _ h1) h2 h3 h4
theorem xR{ρ:aG}{T:Nat->Prop}{w:World}{n m st:Nat}{g g':Nat->List SV}(hn:n=m)(h: ∀i,i<n-> ∀b o,dS T w (g i) b o->dS T w (g' i) b o){v:Value}(hv:rel ρ T w (.ro n st g) v):rel ρ T w (.ro m st g') v:=by
 subst hn
 obtain ⟨a,c,h1,h2,h3⟩:=hv
 refine ⟨a,c,h1,h2,fun hl=> ?_⟩
 obtain ⟨b,off,h4,hb,h5,h6⟩:=h3 hl
 exact ⟨b,off,h4,hb,h5,fun i hi=>h i hi _ _ (h6 i hi)⟩
theorem nL{ρ:aG}{T:Nat->Prop}{w:World}{n m st:Nat}{g g':Nat->List SV}(hn:n=m)(h: ∀i,i<n->g i=g' i){v:Value}(hv:rel ρ T w (.ro n st g) v):rel ρ T w (.ro m st g') v:=
 xR hn (fun i hi _ _ hr=>by rw [<- h i hi];exact hr) hv
theorem aAJ{ρ:aG}{T:Nat->Prop}{w:World}{t u:Trk}(h:oZ t u){l:List Value}(hr:aQ ρ T w (aM t) l):aQ ρ T w (aM u) l:=by
 obtain ⟨⟨a1,a2,a3,a4,a5,a6,a7,a8,a9⟩,b1,b2,b3,⟨c1,c2⟩,⟨d1,d2⟩,⟨e1,e2⟩,f1,f2,f3,f4⟩:=h
 obtain ⟨v1,l1,z1,q1,v2,l2,z2,q2,v3,l3,z3,q3,v4,l4,z4,q4,v5,l5,z5,q5,v6,l6,z6,q6,v7,l7,z7,q7,v8,l8,z8,q8,v9,l9,z9,q9,v10,l10,z10,q10,v11,l11,z11,q11,v12,l12,z12,q12,v13,l13,z13,q13,v14,l14,z14,q14,v15,l15,z15,q15,v16,l16,z16,q16,q17⟩:=hr
 refine ⟨v1,l1,z1,a1▸q1,v2,l2,z2,a2▸q2,v3,l3,z3,a3▸q3,v4,l4,z4,a4▸q4,v5,l5,z5,a5▸q5,v6,l6,z6,a6▸q6,v7,l7,z7,nL a7 (fun i hi=> ?_) q7,v8,l8,z8,nL a8 (fun i hi=> ?_) q8,v9,l9,z9,nL a9 (fun i hi=> ?_) q9,v10,l10,z10,nL c1 (fun i hi=> ?_) q10,v11,l11,z11,xR d1 (fun i hi b o hb=> ?_) q11,v12,l12,z12,nL e1 (fun i hi=> ?_) q12,v13,l13,z13,f1▸q13,v14,l14,z14,f2▸q14,v15,l15,z15,f3▸q15,v16,l16,z16,f4▸q16,q17⟩
 ·simp only [aP,b1 i hi]
 ·simp only [aP,b2 i hi]
 ·obtain ⟨k1,k2,k3⟩:=b3 i hi
  simp only [eY,k1,k2,k3]
 ·obtain ⟨k1,k2⟩:=c2 i hi
  simp only [bS,k1,k2]
 ·obtain ⟨k1,k2⟩:=d2 i hi
  obtain ⟨⟨x,hx,hr⟩,hb2⟩:=hb
  exact ⟨⟨x,hx,nL k1 (fun k hk=>by simp only [bS,(k2 k hk).1,(k2 k hk).2]) hr⟩,hb2⟩
 ·obtain ⟨k1,k2,k3,k4,k5⟩:=e2 i hi
  simp only [eV,k1,k2,k3,k4,k5]
theorem NW{P:Program}{k:FuncId}{t:Trk}{v:SV}{σ':List (Option SB)}{d:List Nat}(h:aD P k [.agg (aM (BW t).trk)] [] v σ' d):aD P k [.agg (aM t)] [] v σ' d:=
 yN (fun ρ T w l h=>by
  obtain ⟨x,r,e,⟨a,rfl,h1⟩,h2⟩:=h
  exact ⟨_,r,e,⟨a,rfl,aAJ (GJ t) h1⟩,h2⟩) h
variable {P:Program}
theorem sJ {k:FuncId} {xs:List SV} {sb:SB} {T0:TypeId} {cs:List SV} {n st e:Nat} {g g':Nat->List SV} {d:List Nat} (hcs:ids.idsL cs=[]) (hg: ∀i,i<n->g i=g' i/\(g' i).length=st)
  (h:aD P k xs [some sb] (.own 1 0 st n) [some (.cells T0 cs),some (.row e st n g)] d):aD P k xs [some sb] (.ro n st g') [some (.cells T0 cs)] d:=by
 intro ρ T w vals h1 h2 h3 h4
 refine (h ρ T w vals h1 h2 h3 h4).mono fun y w' ⟨ρ',T',hd⟩=> ?_
 obtain ⟨b,c,r1,rfl,r2,r3,_⟩:=hd.val
 obtain ⟨b',r4,r5,vs,r6,r7,r8⟩:=hd.store 1 _ rfl
 rw [r1] at r4;cases r4
 obtain ⟨_,b0,_,z1,z2,z3⟩:=h2 0 (by simp)
 have hb0:=(h4.low 0 b0 z1).2
 have z4:=hd.names 0 b0 z1
 have hnew:w.heap.size<=b:=by
  rcases hd.fresh 1 b (by simp) r1 with h|⟨q,_,hq,_⟩
  ·exact h
  ·match q,hq with
   |0,hq=>cases hq
   |1,hq=>cases hq
 have hdead: ∀q:Nat,¬([some (SB.cells T0 cs),some (.row e st n g)]:List (Option SB))[q]? =some none:=fun q hq=>by
  match q,hq with
  |0,hq=>cases hq
  |1,hq=>cases hq
 refine ⟨fun p=>if p=0 then ρ' 0 else none,fun c=>T' c/\c≠b,{
  names:=fun p c hp=>by
   have:=(h4.low p c hp).1
   have hp0:p=0:=by simp at this;exact this
   subst hp0
   rw [if_pos rfl];exact hd.names 0 c hp
  only:=fun p c hp=>by
   by_cases hp0:p=0
   ·subst hp0;simp
   ·rw [if_neg hp0] at hp;cases hp
  len:=by simp
  val:= ?_
  store:=fun p s hp=>by
   match p,hp with
   |0,hp=>
    cases hp
    obtain ⟨b1,e1,e2,e3⟩:=hd.store 0 _ rfl
    rw [z4] at e1;cases e1
    refine ⟨b0,by rw [if_pos rfl];exact z4,⟨e2,by omega⟩, ?_⟩
    obtain ⟨vs0,f1,f2⟩:=e3
    exact ⟨vs0,f1,aS (ρ:=fun _=>none) (ρ':=fun p=>if p=0 then ρ' 0 else none) (T:=T') (fun _ _ h=>by cases h) (fun _ _ h=>h.1) (aX.refl T' w') _ _ (eP _ _ hcs f2)⟩
  fresh:=fun p c hp hb=>by
   rw [if_neg (by simp at hp;omega)] at hb;cases hb
  inj:=fun p q c hp _ hb=>by
   rw [if_neg (by simp at hp;omega)] at hb;cases hb
  dirty:=hd.dirty
  grow:=hd.grow
  tback:=fun c hc ht=>hd.tback c hc ht.1
  below:=fun p c hp=>by
   by_cases hp0:p=0
   ·subst hp0;rw [if_pos rfl] at hp;exact hd.below 0 c hp
   ·rw [if_neg hp0] at hp;cases hp
  tkeep:=fun c hc ht=>by
   rcases hd.tkeep c hc ht with h|⟨q,_,hq,_⟩
   ·exact .inl ⟨h,by omega⟩
   ·exact absurd hq (hdead q)}⟩
 refine ⟨some ⟨b,0*st,none⟩,c,rfl,⟨r2,by omega,fun he=>by cases he⟩,fun _=>⟨b,0,by rw [Nat.zero_mul],(Array.getElem?_eq_some_iff.1 r6).1,fun ht=>ht.2 rfl,fun i hi=> ?_⟩⟩
 obtain ⟨e1,e2⟩:=hg i hi
 rw [<- e1]
 have hr:=aS (T':=fun c=>T' c/\c≠b) (fun _ _ h=>h) (fun _ _ h=>h.1) (aX.refl T' w') _ _ (r8 i hi)
 rw [Nat.zero_add]
 refine dJ hr fun j u hj=> ?_
 rw [dQ r6]
 rw [List.getElem?_take] at hj
 split at hj
 ·rw [List.getElem?_drop] at hj
  simpa using hj
 ·cases hj
def nC{α:Type}(e st:Nat)(f:α->List SV)(L:List α)(b:SB)(K:KC):Prop:=
 (L=[]->K .nils [some b] [0])/\ ∀g,L≠[]->(∀j (h:j<L.length),g j=f L[j])->K (.own 1 0 st L.length) [some b,some (.row e st L.length g)] [0]
theorem jW {α:Type} {k:FuncId} {xs:List SV} {sb:SB} {T0:TypeId} {cs:List SV} {e st:Nat} {f:α->List SV} {d0:α} {L:List α} (hcs:ids.idsL cs=[]) (hf: ∀x,(f x).length=st)
  (h:Sat P k xs [some sb] (nC e st f L (.cells T0 cs))):aD P k xs [some sb] (.ro L.length st (aY f d0 L)) [some (.cells T0 cs)] [0]:=by
 obtain ⟨v,σ',d,hv,hc⟩:=h (fun v σ' d=>(L=[]/\v= .nils/\σ'=[some (.cells T0 cs)]/\d=[0])\/ ∃g,(∀j (h:j<L.length),g j=f L[j])/\v= .own 1 0 st L.length/\σ'=[some (.cells T0 cs),some (.row e st L.length g)]/\d=[0])
  ⟨fun hL=> .inl ⟨hL,rfl,rfl,rfl⟩,fun g _ hg=> .inr ⟨g,hg,rfl,rfl,rfl⟩⟩
 rcases hv with ⟨rfl,rfl,rfl,rfl⟩|⟨g,hg,rfl,rfl,rfl⟩
 ·exact lB hc
 ·exact sJ hcs (fun i hi=>⟨by rw [hg i hi,dM hi],by rw [dM hi];exact hf _⟩) hc
end Go.Se
namespace Go.Se
def cM(w:List Int):Prop:= ∀x,x∈w->uY x=false/\x≠10/\x≠35
theorem LI(n:Int): ∀x,x∈aJ n->x=45\/(48<=x/\x<=57):=fun x hx=>by
 unfold aJ kI at hx
 rcases List.mem_append.1 hx with hx|hx
 ·cases h:decide (n<0) with
  |true=>rw [h] at hx;exact .inl (List.mem_singleton.1 hx)
  |false=>rw [h] at hx;cases hx
 ·exact .inr (d8 (lE n) x hx)
theorem aA8{x:Int}(h:x≠32)(h2:x≠9):uY x=false:=by
 unfold uY
 rw [beq_false_of_ne h,beq_false_of_ne h2];rfl
theorem KJ(n:Int):cM (aJ n):=fun x hx=>by
 have h:=LI n x hx
 exact ⟨aA8 (by omega) (by omega),by omega,by omega⟩
theorem SS(n:Int):aJ n≠[]:=fun e=>by
 have h:=congrArg List.length e
 unfold aJ at h
 rw [List.length_append] at h
 have:=qE (bG n)
 have h:(kI n).length+(bF (bG n) 1).length=0:=h
 omega
def gZ :List (List Int)->List Int
 | []=>[]
 |w::r=>32::(w++gZ r)
theorem IW : ∀(r:List (List Int)) (w:List Int),w≠[]->cM w->(∀x,x∈r->x≠[]/\cM x)->jN [] (w++gZ r)=w::r
 | [],w,h1,h2,_=>by
  rw [tF w [] (gZ []) (fun x hx=>(h2 x hx).1),List.nil_append]
  show jN w []=[w]
  rw [CW]
  cases w with
  |nil=>exact absurd rfl h1
  |cons=>rfl
 |v::r,w,h1,h2,h3=>by
  obtain ⟨v1,v2⟩:=h3 v (List.mem_cons_self ..)
  rw [tF w [] _ (fun x hx=>(h2 x hx).1),List.nil_append]
  show jN w (32::(v++gZ r))=_
  rw [tU]
  show (bif w.isEmpty then jN [] (v++gZ r) else w::jN [] (v++gZ r))=_
  rw [IW r v v1 v2 fun x hx=>h3 x (List.mem_cons_of_mem _ hx)]
  cases w with
  |nil=>exact absurd rfl h1
  |cons=>rfl
theorem I1{c:Int}: ∀{l:List Int},(∀x,x∈l->x≠c)->fR c l=false
 | [],_=>rfl
 |a::l,h=>by
  unfold fR
  rw [beq_false_of_ne (h a (List.mem_cons_self ..)),I1 (l:=l) fun x hx=>h x (List.mem_cons_of_mem _ hx)];rfl
theorem KT : ∀(r:List (List Int)) (x:Int),(∀v,v∈r->cM v)->x∈gZ r->x≠10/\x≠35
 | [],x,_,h=>by cases h
 |v::r,x,h,hx=>by
  rcases List.mem_cons.1 hx with rfl|hx
  ·exact ⟨by decide,by decide⟩
  rcases List.mem_append.1 hx with hx|hx
  ·exact (h v (List.mem_cons_self ..) x hx).2
  ·exact KT r x (fun v hv=>h v (List.mem_cons_of_mem _ hv)) hx
theorem KP : ∀(u w r:List Int),(∀x,x∈u->x≠10)->lnR w (u++10::r)=(w++u)::lnR [] r
 | [],w,r,_=>by rw [List.append_nil];rfl
 |a::u,w,r,h=>by
  rw [List.cons_append]
  conv=>lhs;unfold lnR
  rw [beq_false_of_ne (h a (List.mem_cons_self ..)),cond_false,KP u (w++[a]) r fun x hx=>h x (List.mem_cons_of_mem _ hx),List.append_assoc];rfl
theorem aCk{w rest:List Int}{r:List (List Int)}{k:Int}(h1:w≠[])(h2:cM w)(h3: ∀x,x∈r->x≠[]/\cM x):
  nbF k (lnR [] (w++gZ r++10::rest))=(k+1,w::r)::nbF (k+1) (lnR [] rest):=by
 have hm: ∀x,x∈w++gZ r->x≠10/\x≠35:=fun x hx=>by
  rcases List.mem_append.1 hx with hx|hx
  ·exact (h2 x hx).2
  ·exact KT r x (fun v hv=>(h3 v hv).2) hx
 rw [KP _ _ _ fun x hx=>(hm x hx).1,List.nil_append]
 conv=>lhs;unfold nbF
 have:bW (w++gZ r)=w::r:=by
  unfold bW
  rw [pJ 35 _ (I1 fun x hx=>(hm x hx).2),IW r w h1 h2 h3]
 rw [this];rfl
theorem A5{n:Int}(h0: -999999999999999999<=n)(h1:n<=999999999999999999):iM (aJ n)=0/\e9 (aJ n)=n:=by
 have ha:=lE n
 have hb:bG n<1000000000000000000:=QS (by omega) (by omega)
 have hWd:vE (bF (bG n) 1):=d8 ha
 have hW1:=qE (bG n)
 have hW2:=pY (k:=18) ha (show bG n<10^18 by omega) (by decide)
 have hw:aJ n=kI n++(bF (bG n) 1++[]):=by rw [List.append_nil];rfl
 obtain ⟨m1,m2⟩:=DB (n:=n) (m:=[]) hWd hW1
 have hnum:=xT (most:=18) hWd hW1 (by omega) (by omega)
 have hval:=rR (least:=1) ha (show bG n<18446744073709551616 by omega)
 unfold iM e9
 rw [hw,m1,m2,List.append_nil,hnum.1,hnum.2,hval]
 refine ⟨rfl, ?_⟩
 unfold bG
 cases h:decide (n<0)
 ·rfl
 ·show - -n=n
  omega
theorem UQ{n lo hi:Int}(h0: -999999999999999999<=n)(h1:n<=999999999999999999)(hl:lo<=n)(hh:n<=hi):xS (aJ n) lo hi=0:=by
 obtain ⟨a,b⟩:=A5 h0 h1
 unfold xS
 rw [a,b,decide_eq_false (show¬n<lo by omega),decide_eq_false (show¬n>hi by omega)];rfl
theorem QP{b:Bk}{a:Int}:kK b 0 a=b:=by unfold kK;cases b.err==0<;>rfl
theorem oM(n:Int):bB (aJ n):=fun x hx=>by
 unfold aJ kI at hx
 rcases List.mem_append.1 hx with hx|hx
 ·cases h:decide (n<0) with
  |true=>rw [h] at hx;have:=List.mem_singleton.1 hx;omega
  |false=>rw [h] at hx;cases hx
 ·have:=d8 (lE n) x hx;omega
theorem HT(n:Int):aA (bytesOf (aJ n))=aJ n:=cG (oM n)
theorem XG{b:Bk}{n lo hi:Int}(hb:b.err=0)(h0: -999999999999999999<=n)(h1:n<=999999999999999999)(hl:lo<=n)(hh:n<=hi):
  iI b (aA (bytesOf (aJ n))) lo hi=b/\kF b (aA (bytesOf (aJ n))) lo hi=n:=by
 have e:=UQ h0 h1 hl hh
 unfold iI kF
 rw [HT,e,hb,(A5 h0 h1).2]
 exact ⟨QP,rfl⟩
end Go.Se
namespace Go.Se
theorem TY{n:Int}(h0: -9223372036854775808<=n)(h1:n<=9223372036854775807):s5 (aC n)=0/\sW (aC n)=n:=by
 have ha:=lE n
 have hb:bG n<9223372036854775809:=QS (by omega) (by omega)
 have hw0:0<=bG n/4294967296:=by omega
 have hWd:vE (bF (bG n/4294967296) 1):=d8 hw0
 have hW1:=qE (bG n/4294967296)
 have hW2:=pY (k:=10) hw0 (show bG n/4294967296<10^10 by omega) (by decide)
 obtain ⟨m1,m2⟩:=DB (n:=n) (m:=vJ (bG n)) hWd hW1
 have hnum:=xT (most:=10) hWd hW1 (by omega) (by omega)
 have hval:=rR (least:=1) hw0 (show bG n/4294967296<18446744073709551616 by omega)
 have key:qL (aC n)=true/\vV (aC n)=bV (bG n)/\nG (dG 46 (cS (aC n))) 10=bG n/4294967296:=by
  unfold qL vV
  rw [MF,m2]
  cases hf:bV (bG n)==0 with
  |true=>
   have hF:vJ (bG n)=[]:=by unfold vJ;rw [hf];rfl
   have hf0:bV (bG n)=0:=by simpa using hf
   rw [hF,List.append_nil,pJ 46 _ (sO (by decide) _ hWd),sO (by decide) _ hWd,hnum.1,hnum.2,hval,hf0]
   exact ⟨rfl,rfl,rfl⟩
  |false=>
   have hF:vJ (bG n)=46::kA (bF (bV (bG n)) 10):=by unfold vJ;rw [hf];rfl
   have hne:bV (bG n)≠0:=by simpa using hf
   have hfr:=nV ha
   have hflt:=KX ha
   have hpos:0<bV (bG n):=by omega
   obtain ⟨c1,c2,c3⟩:=DF (c:=46) (by decide) _ (kA (bF (bV (bG n)) 10)) hWd
   have htd:vE (kA (bF (bV (bG n)) 10)):=fun x hx=>d8 hfr.1 x (EO hx)
   have hdd:vE (bF (bV (bG n)) 10):=d8 hfr.1
   have hlen:(bF (bV (bG n)) 10).length=10:=by
    rw [M9 hpos (by omega)]
    exact VF (by have:=pY (k:=10) hfr.1 (show bV (bG n)<10^10 by omega) (by decide);omega)
   have htl:=qN (bF (bV (bG n)) 10)
   have ht1:1<=(kA (bF (bV (bG n)) 10)).length:=by
    have:=B8 (r:=(bF (bV (bG n)) 10).reverse) (by
     obtain ⟨x,hx,hx'⟩:=FY 20 (bV (bG n)) 10 0 [] hpos (by omega)
     exact ⟨x,by simpa [bF] using hx,hx'⟩)
    unfold kA
    rw [List.length_reverse]
    exact List.length_pos_iff.2 this
   have hpad:D3 (kA (bF (bV (bG n)) 10))=bF (bV (bG n)) 10:=by
    have:=FU (bF (bV (bG n)) 10)
    rw [hlen] at this
    exact this
   have n1:=xT (most:=10) htd ht1 (by omega) (by omega)
   have n2:=xT (most:=10) hdd (by omega) (by omega) (by omega)
   have hv2:=rR (least:=10) hfr.1 (show bV (bG n)<18446744073709551616 by omega)
   rw [hF,c1,c2,c3,hnum.1,hnum.2,hval]
   have hrb:AN (kA (bF (bV (bG n)) 10))=true:=by unfold AN;rw [n1.1,hpad,n2.1];rfl
   have hrn:uH (kA (bF (bV (bG n)) 10))=bV (bG n):=by unfold uH;rw [n1.1,hpad,n2.2,hv2];rfl
   rw [hrb,hrn]
   exact ⟨rfl,rfl,rfl⟩
 obtain ⟨k1,k2,k3⟩:=key
 have hA:rA (aC n)=bG n:=by
  unfold rA
  rw [k2,k3,VD ha]
  omega
 have hZ:FE (aC n)=n:=by
  unfold FE
  rw [hA,MF,m1]
  unfold bG
  cases h:decide (n<0)
  ·rfl
  ·show - -n=n
   omega
 unfold s5 sW
 rw [k1,hZ,(jS n).2 (by omega)]
 exact ⟨rfl,rfl⟩
theorem CJ(n:Int): ∀x,x∈aC n->x=45\/x=46\/(48<=x/\x<=57):=fun x hx=>by
 have ha:=lE n
 unfold aC kI at hx
 rcases List.mem_append.1 hx with hx|hx
 ·cases h:decide (n<0) with
  |true=>rw [h] at hx;exact .inl (List.mem_singleton.1 hx)
  |false=>rw [h] at hx;cases hx
 ·rcases List.mem_append.1 hx with hx|hx
  ·exact .inr (.inr (d8 (by omega) x hx))
  ·cases hf:bV (bG n)==0 with
   |true=>rw [hf] at hx;cases hx
   |false=>
    rw [hf] at hx
    rcases List.mem_cons.1 hx with rfl|hx
    ·exact .inr (.inl rfl)
    ·exact .inr (.inr (d8 (nV ha).1 x (EO hx)))
theorem PX(n:Int):cM (aC n):=fun x hx=>by
 have h:=CJ n x hx
 exact ⟨aA8 (by omega) (by omega),by omega,by omega⟩
theorem X0(n:Int):aC n≠[]:=fun e=>by
 have h:=congrArg List.length e
 unfold aC at h
 rw [List.length_append,List.length_append] at h
 have:=qE (bG n/4294967296)
 have h:(kI n).length+((bF (bG n/4294967296) 1).length+_)=0:=h
 omega
theorem j9(n:Int):bB (aC n):=fun x hx=>by
 have:=CJ n x hx
 exact ⟨by omega,by omega⟩
theorem tA(n:Int):(aC n).length<=42:=by
 unfold aC
 rw [List.length_append,List.length_append]
 have h1:=iU (bG n/4294967296) 1
 have h2:(kI n).length<=1:=by unfold kI;cases decide (n<0)<;>simp
 have h3:(bif bV (bG n)==0 then ([]:List Int) else 46::kA (bF (bV (bG n)) 10)).length<=21:=by
  cases bV (bG n)==0 with
  |true=>exact Nat.zero_le _
  |false=>
   have:=qN (bF (bV (bG n)) 10)
   have h4:=iU (bV (bG n)) 10
   simp only [cond_false,List.length_cons]
   omega
 omega
theorem aAY{b:Bk}{n:Int}(hb:b.err=0)(h0: -9223372036854775808<=n)(h1:n<=9223372036854775807):kH b (aC n)=b/\wK b (aC n)=n:=by
 obtain ⟨a,c⟩:=TY h0 h1
 unfold kH wK
 rw [a,c,hb]
 exact ⟨QP,rfl⟩
end Go.Se
namespace Go.Se
def tG(l:List Int):Nat->List SV:=fun i=>[.int .u8 (l.getD i 0)]
theorem Q2(s:ByteArray):CI s=tG (aA s):=by
 funext i
 unfold CI tG
 rw [xZ]
theorem aCR(l m:List Int):nZ l.length (tG l) (tG m)=tG (l++m):=by
 funext i
 unfold nZ tG
 by_cases h:i<l.length
 ·rw [show i.blt l.length=true by simpa [Nat.blt_eq] using h,cond_true,List.getD_eq_getElem?_getD,List.getD_eq_getElem?_getD,List.getElem?_append_left h]
 ·rw [show i.blt l.length=false by rw [<- Bool.not_eq_true];simpa [Nat.blt_eq] using h,cond_false,List.getD_eq_getElem?_getD,List.getD_eq_getElem?_getD,List.getElem?_append_right (Nat.not_lt.1 h)]
theorem YY(a b:ByteArray):aA (a++b)=aA a++aA b:=by
 unfold aA
 simp
theorem aCs(L:List Int):lS L.length (tG L)=L:=by
 unfold lS tG
 refine List.ext_getElem (by simp) fun i h1 h2=> ?_
 simp [DI,List.getD_eq_getElem?_getD,List.getElem?_eq_getElem h2]
end Go.Se
namespace Go.Se
def lnW(w:List Int)(r:List (List Int)):List Int:=w++gZ r++[10]
def dF :List (List Int)->List Int
 | []=>[]
 |w::r=>w++gZ r
def rN :List Int:=[114,97,116,101]
def rK :List Int:=[99,101,108,108]
def nM :List Int:=[115,105,122,101]
def j0 :List Int:=[99,111,114,110,101,114]
def gQ :List Int:=[104,101,105,103,104,116,115]
def iP :List Int:=[103,114,111,117,110,100]
def iK :List Int:=[107,105,110,100]
def fK :List Int:=[112,111,105,110,116]
def eC :List Int:=[114,97,105,108]
def gA :List Int:=[103,97,116,101]
def gW :List Int:=[115,116,97,114,116]
def pB :List Int:=[108,97,112,115]
def wOn :List Int:=[111,110]
def IE :List Int:=[111,102,102]
def qM :List Int:=[112,108,97,105,110]
def qQ :List Int:=[115,112,108,105,116]
def fQ(f:Nat->Int)(a n:Nat):List (List Int):=(List.range' a n).map fun i=>aC (f i)
def fO(f:Nat->Int)(a n:Nat):List (List Int):=(List.range' a n).map fun i=>aJ (f i)
def dD(x y:Nat->Int):Nat->Nat->List (List Int)
 |_,0=>[]
 |a,n+1=>aC (x a)::aC (y a)::dD x y (a+1) n
def bK(f:Nat->List Int):Nat->Nat->List Int
 |_,0=>[]
 |a,n+1=>f a++bK f (a+1) n
theorem jK(f:Nat->List Int): ∀(n a:Nat),bK f a (n+1)=bK f a n++f (a+n)
 |0,a=>by show f a++[]=[]++f (a+0);simp
 |n+1,a=>by
  show f a++bK f (a+1) (n+1)=(f a++bK f (a+1) n)++f (a+(n+1))
  rw [jK f n (a+1),List.append_assoc,show a+1+n=a+(n+1) by omega]
theorem C7(f:Nat->Int)(a n:Nat):fQ f a (n+1)=fQ f a n++[aC (f (a+n))]:=by
 unfold fQ
 rw [List.range'_concat]
 simp
theorem CY(f:Nat->Int)(a n:Nat):fO f a (n+1)=fO f a n++[aJ (f (a+n))]:=by
 unfold fO
 rw [List.range'_concat]
 simp
theorem pX(x y:Nat->Int): ∀(n a:Nat),dD x y a (n+1)=dD x y a n++[aC (x (a+n)),aC (y (a+n))]
 |0,a=>by show aC (x a)::aC (y a)::[]=_;simp [dD]
 |n+1,a=>by
  show aC (x a)::aC (y a)::dD x y (a+1) (n+1)=(aC (x a)::aC (y a)::dD x y (a+1) n)++_
  rw [pX x y n (a+1),show a+1+n=a+(n+1) by omega];simp
def onW(b:Bool):List Int:=bif b then IE else wOn
def gX(b:Bool):List Int:=bif b then qQ else qM
def tB(t:Trk):List Int:=
 lnW rN [aJ t.rate]++lnW rK [aC t.cell]++lnW nM [aJ t.cols,aJ t.rows]++lnW j0 [aC t.cx,aC t.cy]++
 bK (fun r=>lnW gQ (fQ t.h (r*(t.cols+1).toNat) (t.cols+1).toNat)) 0 (t.rows+1).toNat++
 bK (fun r=>lnW iP (fO t.g (r*t.cols.toNat) t.cols.toNat)) 0 t.rows.toNat++
 bK (fun i=>lnW iK [aC (t.kg i),aC (t.kd i),onW (t.ko i)]) 0 t.nk
def aC5(t:Trk):List Int:=
 bK (fun i=>lnW fK [aC (t.lx i),aC (t.ly i)]) 0 t.nl++
 bK (fun i=>lnW eC (dD (t.rx i) (t.ry i) 0 (t.rn i))) 0 t.nr++
 bK (fun i=>lnW gA [aC (t.ax i),aC (t.ay i),aC (t.bx i),aC (t.sb i),gX (t.sp i)]) 0 t.nt++
 lnW gW [aC t.sx,aC t.sy,aJ t.head]++lnW pB [aJ t.laps]
def vM(t:Trk):List Int:=tB t++aC5 t
end Go.Se
namespace Go.Se
def aE0 :List (List Int)->Nat
 | []=>0
 |w::r=>w.length+aE0 r
theorem FS : ∀r:List (List Int),(gZ r).length=aE0 r+r.length
 | []=>rfl
 |w::r=>by
  show ((w++gZ r).length+1)=w.length+aE0 r+(r.length+1)
  rw [List.length_append,FS r];omega
end Go.Se
namespace Go.Se
abbrev ba(l:List Int):ByteArray:=bytesOf l
def rl(p:List Int):List Int:=aA (bytesOf p)
def lnV(b:Bk)(w:ByteArray)(n:Nat):List (List Int):=bif fV b w n n then List.replicate n [] else iD b
def lnB(all:Int)(b:Bk)(w:ByteArray)(n:Nat):Bk:=gJ all b w n n
theorem RH{b:Bk}{w:ByteArray}{lo hi:Int}(h:fV b w lo hi=false):b.err=0/\b.q≠[]/\lo<=(iD b).length/\((iD b).length:Int)<=hi\/(dA b.q).2=[]:=by
 by_cases hz:(dA b.q).2=[]
 ·exact .inr hz
 left
 unfold fV at h
 rw [Bool.or_eq_false_iff] at h
 obtain ⟨h1,h2⟩:=h
 have e1:b.err=0:=by simpa using h1
 have e2:lZ b w lo hi=0:=by simpa using h2
 unfold lZ at e2
 cases hq:b.q.isEmpty with
 |true=>rw [hq] at e2;exact absurd (show (20:Int)=0 from e2) (by decide)
 |false=>
  rw [hq] at e2
  simp only [cond_false] at e2
  cases hw: !(bytesOf ((dA b.q).2.getD 0 [])==w) with
  |true=>rw [hw] at e2;exact absurd (show (21:Int)=0 from e2) (by decide)
  |false=>
   rw [hw] at e2
   simp only [cond_false] at e2
   cases hc:decide ((((dA b.q).2.length:Int) - 1)<lo)||decide ((((dA b.q).2.length:Int) - 1)>hi) with
   |true=>rw [hc] at e2;exact absurd (show (22:Int)=0 from e2) (by decide)
   |false=>
    simp only [Bool.or_eq_false_iff,decide_eq_false_iff_not] at hc
    have hl:0<(dA b.q).2.length:=List.length_pos_iff.2 hz
    refine ⟨e1,fun e=>(by rw [e] at hq;cases hq), ?_, ?_⟩<;>unfold iD<;>rw [List.length_tail]<;>omega
theorem FP{b:Bk}{w:ByteArray}{n:Nat}(hb:aK b)(h:fV b w n n=false):(iD b).length=n:=by
 rcases RH h with ⟨_,_,h1,h2⟩|h0
 ·omega
 ·unfold fV lZ at h
  cases hq:b.q.isEmpty with
  |true=>rw [hq] at h;simp at h
  |false=>
   exfalso
   have hq':b.q≠[]:=fun e=>by rw [e] at hq;cases hq
   have:=(hb.head hq').1
   rw [h0] at this;exact absurd this (by decide)
theorem GV{b:Bk}{w:ByteArray}{n:Nat}(hb:aK b):(lnV b w n).length=n:=by
 unfold lnV
 cases h:fV b w n n with
 |true=>exact List.length_replicate
 |false=>exact FP hb h
def rT(s:List Int×Bk)(p:List Int):List Int×Bk:=(s.1++[wK s.2 (rl p)],kH s.2 (rl p))
def g8(b:Bk)(p:List (List Int)):List Int×Bk:=p.foldl rT ([],b)
theorem N1(b:Bk)(p:List (List Int))(x:List Int):g8 b (p++[x])=rT (g8 b p) x:=by
 unfold g8;rw [List.foldl_append];rfl
theorem tD(b:Bk): ∀p:List (List Int),(g8 b p).1.length=p.length:=fun p=>by
 have: ∀(p:List (List Int)) (s:List Int×Bk),(p.foldl rT s).1.length=s.1.length+p.length:=by
  intro p
  induction p with
  |nil=>intro s;rfl
  |cons x r ih=>intro s;show (r.foldl rT (rT s x)).1.length=_;rw [ih];unfold rT;simp;omega
 have:=this p ([],b)
 unfold g8;rw [this];simp
def plP(b:Bk)(p:List (List Int))(i:Nat):(Int×Int)×Bk:=
 ((wK b (rl (p.getD i [])),wK (kH b (rl (p.getD i []))) (rl (p.getD (i+1) []))),kH (kH b (rl (p.getD i []))) (rl (p.getD (i+1) [])))
def dX{α:Type}(f:Bk->List α×Bk):Nat->Bk->List α×Bk
 |0,b=>([],b)
 |n+1,b=>((dX f n b).1++(f (dX f n b).2).1,(f (dX f n b).2).2)
def cY{α:Type}(w:ByteArray)(one:Bk->α×Bk):Nat->List α×Bk->List α×Bk
 |0,s=>s
 |n+1,s=>bif fG s.2 w then cY w one n (s.1++[(one s.2).1],(one s.2).2) else s
def lV(all:Int)(n:Nat)(b:Bk):List Int×Bk:=g8 (lnB all b (ba gQ) n) (lnV b (ba gQ) n)
def mB(lo hi:Int)(s:List Int×Bk)(p:List Int):List Int×Bk:=(s.1++[kF s.2 (rl p) lo hi],iI s.2 (rl p) lo hi)
def qP(all:Int)(n:Nat)(b:Bk):List Int×Bk:=(lnV b (ba iP) n).foldl (mB 0 7) ([],lnB all b (ba iP) n)
def g7(all:Int)(b:Bk):(Int×Int×Bool)×Bk:=
 let p:=lnV b (ba iK) 3
 let b1:=lnB all b (ba iK) 3
 let b2:=kH b1 (rl (p.getD 0 []))
 let b3:=kH b2 (rl (p.getD 1 []))
 ((wK b1 (rl (p.getD 0 [])),wK b2 (rl (p.getD 1 [])),oA b3 (ba (p.getD 2 [])) [ba wOn,ba IE]==1),jZ b3 (ba (p.getD 2 [])) [ba wOn,ba IE])
def fL(all:Int)(b:Bk):(Int×Int)×Bk:=plP (lnB all b (ba fK) 2) (lnV b (ba fK) 2) 0
def oF(b:Bk)(p:List (List Int)):Nat->List (Int×Int)×Bk
 |0=>([],b)
 |n+1=>((oF b p n).1++[(plP (oF b p n).2 p (2*n)).1],(plP (oF b p n).2 p (2*n)).2)
def fI(all:Int)(b:Bk):List (Int×Int)×Bk:=
 let p:=bif fV b (ba eC) 2 128 then [] else iD b
 let b1:=gJ all b (ba eC) 2 128
 bif p.length%2==1 then ([],vI b1) else oF b1 p (p.length/2)
def iW(all:Int)(b:Bk):(Int×Int×Int×Int×Bool)×Bk:=
 let p:=lnV b (ba gA) 5
 let s:=plP (lnB all b (ba gA) 5) p 0
 let t:=plP s.2 p 2
 ((s.1.1,s.1.2,t.1.1,t.1.2,oA t.2 (ba (p.getD 4 [])) [ba qM,ba qQ]==1),jZ t.2 (ba (p.getD 4 [])) [ba qM,ba qQ])
def isB(b' b:Bk):Prop:=b'=b
def isW(p q:List (List Int)):Prop:=p=q
def PV(b:Bk)(s:ByteArray)(v:Int)(b':Bk):Prop:=v=wK b (aA s)/\b'=kH b (aA s)
def MB(b:Bk)(s:ByteArray)(lo hi v:Int)(b':Bk):Prop:=v=kF b (aA s) lo hi/\b'=iI b (aA s) lo hi
def aEc(b:Bk)(s a c:ByteArray)(v:Int)(b':Bk):Prop:=v=oA b s [a,c]/\b'=jZ b s [a,c]
end Go.Se
namespace Go.Se
theorem aK.num{b:Bk}{p:List Int}(h:aK b):aK (kH b p):=by unfold kH;exact h.fail
theorem aK.int{b:Bk}{p:List Int}{lo hi:Int}(h:aK b):aK (iI b p lo hi):=by unfold iI;exact h.fail
theorem aK.one{b:Bk}{s:ByteArray}{ws:List ByteArray}(h:aK b):aK (jZ b s ws):=by unfold jZ;exact h.fail
theorem aK.odd{b:Bk}(h:aK b):aK (vI b):=by unfold vI;exact h.fail
def uP(all:Int)(b:Bk)(s:ByteArray)(n:Nat)(p:List (List Int))(b':Bk):Prop:=(p=lnV b s n/\p.length=n)/\b'=lnB all b s n
def cP(all:Int):Prop:=0<=all/\all<=1048577
end Go.Se
namespace Go.Se
def aFa(b:Bk)(p:List (List Int))(L:List Int)(b':Bk):Prop:=(L=(g8 b p).1/\L.length=p.length)/\b'=(g8 b p).2
def JA(b:Bk)(p:List (List Int))(x y:Int)(b':Bk):Prop:=(x,y)=(plP b p 0).1/\b'=(plP b p 0).2
theorem MS(b:Bk){p:List (List Int)}{i:Nat}(h:i<p.length):g8 b (p.take (i+1))=rT (g8 b (p.take i)) (p.getD i []):=by
 rw [List.take_add_one,List.getElem?_eq_getElem h]
 show g8 b (p.take i++[p[i]])=_
 rw [N1,List.getD_eq_getElem?_getD,List.getElem?_eq_getElem h];rfl
theorem aK.nums{b:Bk}(h:aK b)(p:List (List Int)):aK (g8 b p).2:=by
 have: ∀(p:List (List Int)) (s:List Int×Bk),aK s.2->aK (p.foldl rT s).2:=by
  intro p
  induction p with
  |nil=>intro s h;exact h
  |cons x r ih=>intro s h;exact ih _ h.num
 exact this p _ h
theorem vC(p:List (List Int))(k:Nat):(fun i=>aH p (i+k))=aH (p.drop k):=by
 funext i
 show jE (p.getD (i+k) [])=jE ((p.drop k).getD i [])
 rw [List.getD_eq_getElem?_getD,List.getD_eq_getElem?_getD,List.getElem?_drop,Nat.add_comm]
theorem AU(b:Bk)(p:List (List Int))(k:Nat):plP b (p.drop k) 0=plP b p k:=by
 unfold plP
 have e: ∀j,(p.drop k).getD j []=p.getD (k+j) []:=fun j=>by rw [List.getD_eq_getElem?_getD,List.getD_eq_getElem?_getD,List.getElem?_drop]
 rw [e 0,e (0+1)];rfl
theorem L8{all:Int}{b:Bk}(h:aK b):aK (g7 all b).2:=(aK.take h).num.num.one
theorem FK{all:Int}{b:Bk}(h:aK b):aK (fL all b).2:=(aK.take h).num.num
theorem KQ{all:Int}{b:Bk}(h:aK b):aK (iW all b).2:=(aK.take h).num.num.num.num.one
theorem RR{b:Bk}(h:aK b)(p:List (List Int)): ∀n,aK (oF b p n).2
 |0=>h
 |n+1=>(RR h p n).num.num
theorem CG{all:Int}{b:Bk}(h:aK b):aK (fI all b).2:=by
 unfold fI
 simp only
 cases (bif fV b (ba eC) 2 128 then [] else iD b).length%2==1
 ·exact RR h.take _ _
 ·exact h.take.odd
end Go.Se
namespace Go.Se
theorem FM{b:Bk}{w:ByteArray}{lo hi:Int}(hb:aK b)(h:fV b w lo hi=false):lo<=(iD b).length/\((iD b).length:Int)<=hi:=by
 rcases RH h with ⟨_,_,h1,h2⟩|h0
 ·exact ⟨h1,h2⟩
 ·unfold fV lZ at h
  cases hq:b.q.isEmpty with
  |true=>rw [hq] at h;simp at h
  |false=>
   exfalso
   have hq':b.q≠[]:=fun e=>by rw [e] at hq;cases hq
   have:=(hb.head hq').1
   rw [h0] at this;exact absurd this (by decide)
theorem AP(b:Bk)(p:List (List Int)): ∀n,(oF b p n).1.length=n
 |0=>rfl
 |n+1=>by show ((oF b p n).1++[_]).length=n+1;rw [List.length_append,AP b p n];rfl
theorem UN {α:Type} {env:Env} {W:Nat->St->Option St} {fn:Func} {path:List Nat} {blk:Nat} {KK:Ex->St->Prop} {e st id:Nat} {f:α->List SV} (F:Nat->List α) (S:SV->Option SB->Nat->St) (n:Nat) (h0:F 0=[])
  (hr: ∀i o b,i<n->cB e st id f (F i) o b-> ∀X:St->Prop,(∀o' b',cB e st id f (F (i+1)) o' b'->X (S o' b' (i+1)))->aF env W fn path blk (eT X KK) (S o b i))
  (he: ∀o b,cB e st id f (F n) o b-> ∀X:St->Prop,aF env W fn path blk (eT X KK) (S o b n)):
  iter (aF env W fn path blk) KK (n+1) (S .nils none 0):=
 gV (fun a:SV×Option SB×Nat=>S a.1 a.2.1 a.2.2) (fun a=>n - a.2.2) (fun a=>a.2.2<=n/\cB e st id f (F a.2.2) a.1 a.2.1) (fun ⟨o,b,i⟩ ⟨h1,h2⟩ X hX=>by
  simp only at h1 h2 hX|-
  by_cases h:i<n
  ·exact hr i o b h h2 X fun o' b' ht=>hX (o',b',i+1) ⟨h,ht⟩ (by show n - (i+1)<n - i;omega)
  ·obtain rfl:i=n:=by omega
   exact he o b h2 X) (n+1) (.nils,none,0) ⟨Nat.zero_le _,by rw [h0];exact kQ⟩ (by show n - 0<n+1;omega)
theorem oS {α:Type} {e st id:Nat} {f:α->List SV} {L:List α} {b:SB} {K:KC} {o:SV} {r:Option SB} (ht:cB e st id f L o r) (hK:nC e st f L b K)
  {G:Prop} (h0:o= .nils->r=none->K .nils [some b] [0]->G) (h1: ∀n g,o= .own id 0 st n->r=some (.row e st n g)->K (.own 1 0 st n) [some b,some (.row e st n g)] [0]->G):G:=by
 rcases ht with ⟨hL,rfl,rfl⟩|⟨g,hne,rfl,rfl,hg⟩
 ·exact h0 rfl rfl (hK.1 hL)
 ·exact h1 _ g rfl rfl (hK.2 g hne hg)
theorem N4{α:Type}{w:ByteArray}{one:Bk->α×Bk}{s:List α×Bk}(h:fG s.2 w=false): ∀n,cY w one n s=s
 |0=>rfl
 |n+1=>by unfold cY;rw [h];rfl
theorem tX {α:Type} {env:Env} {W:Nat->St->Option St} {fn:Func} {path:List Nat} {blk:Nat} {KK:Ex->St->Prop} {e st id:Nat} {f:α->List SV} {w:ByteArray} {one:Bk->α×Bk} (S:SV->Option SB->Bk->St) (most:Nat) (b0:Bk) (hb0:aK b0) (hone: ∀b,aK b->aK (one b).2)
  (hr: ∀(L:List α) (b:Bk) (o:SV) (r:Option SB),aK b->L.length<=most->cB e st id f L o r-> ∀X:St->Prop,
   (L.length<most->fG b w=true-> ∀o' r',cB e st id f (L++[(one b).1]) o' r'->X (S o' r' (one b).2))->
   ((L.length<most->fG b w=false)->KK (.exit 0) (S o r b))->aF env W fn path blk (eT X KK) (S o r b))
  (he: ∀(o:SV) (r:Option SB),cB e st id f (cY w one most ([],b0)).1 o r->aK (cY w one most ([],b0)).2->(cY w one most ([],b0)).1.length<=most->KK (.exit 0) (S o r (cY w one most ([],b0)).2)):
  iter (aF env W fn path blk) KK (most+1) (S .nils none b0):=by
 refine gV (fun a:SV×Option SB×List α×Bk=>S a.1 a.2.1 a.2.2.2) (fun a=>most - a.2.2.1.length) (fun a=>(a.2.2.1.length<=most/\aK a.2.2.2)/\cB e st id f a.2.2.1 a.1 a.2.1/\cY w one (most - a.2.2.1.length) a.2.2=cY w one most ([],b0)) ?_ (most+1) (.nils,none,[],b0) ⟨⟨Nat.zero_le _,hb0⟩,kQ,rfl⟩ (by show most - 0<most+1;omega)
 rintro ⟨o,r,L,b⟩ ⟨⟨h1,hb⟩,h2,h3⟩ X hX
 simp only at h1 hb h2 h3 hX|-
 refine hr L b o r hb h1 h2 X (fun hl hn o' r' ht=> ?_) fun hc=> ?_
 ·refine hX (o',r',L++[(one b).1],(one b).2) ⟨⟨by show (L++[(one b).1]).length<=most;rw [List.length_append];exact hl,hone b hb⟩,ht, ?_⟩ (by show most - (L++[(one b).1]).length<most - L.length;rw [List.length_append,List.length_singleton];omega)
  show cY w one (most - (L++[(one b).1]).length) (L++[(one b).1],(one b).2)=_
  rw [<- h3,List.length_append,List.length_singleton,show most - L.length=(most - (L.length+1))+1 by omega]
  conv=>rhs;unfold cY
  rw [hn];rfl
 ·have hm:cY w one most ([],b0)=(L,b):=by
   rw [<- h3]
   by_cases hl:L.length<most
   ·exact N4 (hc hl) _
   ·rw [show most - L.length=0 by omega];rfl
  have:=he o r (by rw [hm];exact h2) (by rw [hm];exact hb) (by rw [hm];exact h1)
  rw [hm] at this;exact this
end Go.Se
namespace Go.Se
def OV{α:Type}(w:ByteArray)(F:Bk->α×Bk)(m:Nat)(b:Bk)(L:List α)(b':Bk):Prop:=(L,b')=cY w F m ([],b)
end Go.Se
namespace Go.Se
def isF{α:Type}(F:Int->Bk->α×Bk)(all:Int)(b:Bk)(x:α)(b':Bk):Prop:=(x,b')=F all b
theorem mQ{α:Type}{F:Int->Bk->α×Bk}{all:Int}{b:Bk}{x:α}{b':Bk}(h:isF F all b x b'):x=(F all b).1/\b'=(F all b).2:=⟨congrArg Prod.fst h,congrArg Prod.snd h⟩
end Go.Se
namespace Go.Se
def IH(all:Int)(w:ByteArray)(lo hi:Int)(b:Bk):Int×Bk:=(kF (lnB all b w 1) (rl ((lnV b w 1).getD 0 [])) lo hi,iI (lnB all b w 1) (rl ((lnV b w 1).getD 0 [])) lo hi)
def ND(all:Int)(w:ByteArray)(b:Bk):Int×Bk:=(wK (lnB all b w 1) (rl ((lnV b w 1).getD 0 [])),kH (lnB all b w 1) (rl ((lnV b w 1).getD 0 [])))
def vK(all:Int)(b:Bk):(Int×Int)×Bk:=
 let p:=lnV b (ba nM) 2
 let b1:=lnB all b (ba nM) 2
 let b2:=iI b1 (rl (p.getD 0 [])) 1 64
 ((kF b1 (rl (p.getD 0 [])) 1 64,kF b2 (rl (p.getD 1 [])) 1 64),iI b2 (rl (p.getD 1 [])) 1 64)
def qF(all:Int)(b:Bk):(Int×Int)×Bk:=plP (lnB all b (ba j0) 2) (lnV b (ba j0) 2) 0
def iA(all:Int)(b:Bk):TL×Bk:=
 let r:=IH all (ba rN) 60 1024 b
 let c:=ND all (ba rK) r.2
 let s:=vK all c.2
 let o:=qF all s.2
 let h:=dX (lV all (s.1.1+1).toNat) (s.1.2+1).toNat o.2
 let g:=dX (qP all s.1.1.toNat) s.1.2.toNat h.2
 let k:=cY (ba iK) (g7 all) 8 ([],g.2)
 (⟨r.1,c.1,s.1.1,s.1.2,o.1,h.1,g.1,k.1,[],[],[],(0,0),0,0⟩,k.2)
theorem QT{all:Int}{w:ByteArray}{lo hi:Int}{b:Bk}(h:aK b):aK (IH all w lo hi b).2:=(aK.take h).int
theorem QL{all:Int}{w:ByteArray}{b:Bk}(h:aK b):aK (ND all w b).2:=(aK.take h).num
theorem QZ{all:Int}{b:Bk}(h:aK b):aK (vK all b).2:=(aK.take h).int.int
theorem DK{all:Int}{b:Bk}(h:aK b):aK (qF all b).2:=(aK.take h).num.num
theorem GZ{all:Int}{n:Nat}{b:Bk}(h:aK b):aK (lV all n b).2:=aK.nums (aK.take h) _
theorem aCY(lo hi:Int): ∀(p:List (List Int)) (s:List Int×Bk),aK s.2->aK (p.foldl (mB lo hi) s).2:=by
 intro p
 induction p with
 |nil=>intro s h;exact h
 |cons x r ih=>intro s h;exact ih _ h.int
theorem AZ(lo hi:Int): ∀(p:List (List Int)) (s:List Int×Bk),(p.foldl (mB lo hi) s).1.length=s.1.length+p.length:=by
 intro p
 induction p with
 |nil=>intro s;rfl
 |cons x r ih=>intro s;show (r.foldl (mB lo hi) (mB lo hi s x)).1.length=_;rw [ih];unfold mB;simp;omega
theorem HE{all:Int}{n:Nat}{b:Bk}(h:aK b):aK (qP all n b).2:=aCY 0 7 _ _ (aK.take h)
theorem DQ{all:Int}{n:Nat}{b:Bk}(h:aK b):(lV all n b).1.length=n:=by unfold lV;rw [tD,GV h]
theorem aAR{all:Int}{n:Nat}{b:Bk}(h:aK b):(qP all n b).1.length=n:=by unfold qP;rw [AZ,GV h];simp
theorem pE{α:Type}{f:Bk->List α×Bk}(hf: ∀b,aK b->aK (f b).2){b:Bk}(h:aK b): ∀n,aK (dX f n b).2
 |0=>h
 |n+1=>hf _ (pE hf h n)
theorem xJ{α:Type}{f:Bk->List α×Bk}{m:Nat}(hf: ∀b,aK b->aK (f b).2)(hl: ∀b,aK b->(f b).1.length=m){b:Bk}(h:aK b): ∀n,(dX f n b).1.length=n*m
 |0=>by rw [Nat.zero_mul];rfl
 |n+1=>by show ((dX f n b).1++(f (dX f n b).2).1).length=_;rw [List.length_append,xJ hf hl h n,hl _ (pE hf h n),Nat.add_mul,Nat.one_mul]
theorem rS{α:Type}{w:ByteArray}{one:Bk->α×Bk}(h1: ∀b,aK b->aK (one b).2): ∀(n:Nat) (s:List α×Bk),aK s.2->aK (cY w one n s).2
 |0,_,h=>h
 |n+1,s,h=>by
  unfold cY
  cases fG s.2 w
  ·exact h
  ·exact rS h1 n _ (h1 _ h)
theorem EQ{α:Type}{w:ByteArray}{one:Bk->α×Bk}: ∀(n:Nat) (s:List α×Bk),(cY w one n s).1.length<=s.1.length+n
 |0,_=>Nat.le_refl _
 |n+1,s=>by
  unfold cY
  cases fG s.2 w
  ·exact Nat.le_add_right _ _
  ·have:=EQ (w:=w) (one:=one) n (s.1++[(one s.2).1],(one s.2).2)
   simp only [List.length_append,List.length_singleton] at this
   show (cY w one n (s.1++[(one s.2).1],(one s.2).2)).1.length<=_
   omega
theorem PP{all:Int}{b:Bk}(h:aK b):aK (iA all b).2:=
 rS (fun _ h=>L8 h) _ _ (pE (fun _ h=>HE h) (pE (fun _ h=>GZ h) (DK (QZ (QL (QT h)))) _) _)
theorem OE{σ:Type}(f:σ->List Int->σ)(s:σ){p:List (List Int)}{i:Nat}(h:i<p.length):(p.take (i+1)).foldl f s=f ((p.take i).foldl f s) (p.getD i []):=by
 rw [List.take_add_one,List.getElem?_eq_getElem h]
 show (p.take i++[p[i]]).foldl f s=_
 rw [List.foldl_append,List.getD_eq_getElem?_getD,List.getElem?_eq_getElem h];rfl
theorem B2{b:Bk}{l:List Int}{lo hi:Int}:(kF b l lo hi=0/\ ¬(iI b l lo hi).err=0)\/(lo<=kF b l lo hi/\kF b l lo hi<=hi):=by
 unfold kF iI kK xS
 cases hb:b.err==0 with
 |false=>exact .inl ⟨rfl,by simpa using hb⟩
 |true=>
  cases hw:iM l==0 with
  |false=>exact .inl ⟨rfl,show¬(24:Int)=0 by decide⟩
  |true=>
   simp only [cond_true,Bool.true_and]
   cases hr:decide (e9 l<lo)||decide (e9 l>hi) with
   |true=>exact .inl ⟨rfl,show¬(40:Int)=0 by decide⟩
   |false=>
    simp only [Bool.or_eq_false_iff,decide_eq_false_iff_not] at hr
    exact .inr ⟨by show lo<=e9 l;omega,by show e9 l<=hi;omega⟩
theorem aA2{b:Bk}{l:List Int}{lo hi:Int}(h: ¬b.err=0):kF b l lo hi=0:=by
 unfold kF
 rw [show (b.err==0)=false from by simpa using h];rfl
theorem Y2(all:Int)(b:Bk):(0<=(vK all b).1.1/\(vK all b).1.1<=64)/\(0<=(vK all b).1.2/\(vK all b).1.2<=64)/\((vK all b).1.2≠0->1<=(vK all b).1.1):=by
 unfold vK
 simp only
 generalize lnB all b (ba nM) 2=b1
 generalize rl ((lnV b (ba nM) 2).getD 0 [])=l
 generalize rl ((lnV b (ba nM) 2).getD 1 [])=l2
 have h2:(kF (iI b1 l 1 64) l2 1 64=0)\/(1<=kF (iI b1 l 1 64) l2 1 64/\kF (iI b1 l 1 64) l2 1 64<=64):=by
  rcases B2 (b:=iI b1 l 1 64) (l:=l2) (lo:=1) (hi:=64) with h|h
  ·exact .inl h.1
  ·exact .inr h
 rcases B2 (b:=b1) (l:=l) (lo:=1) (hi:=64) with ⟨h1,he⟩|h1
 ·have:=aA2 (l:=l2) (lo:=1) (hi:=64) he
  exact ⟨by omega,by omega,fun h=>absurd this h⟩
 ·exact ⟨by omega,by omega,fun _=>h1.1⟩
theorem O9{α:Type}{e st id m n:Nat}{f:α->List SV}{L p:List α}{g h:Nat->List SV}(hp:p≠[])(hm:m=L.length)(hn:n=p.length)(hg: ∀j (h:j<L.length),g j=f L[j])(hh: ∀j (x:j<p.length),h j=f p[j]):
  cB e st id f (L++p) (.own id 0 st (m+n)) (some (.row e st (m+n) (nZ m g h))):=
 .inr ⟨nZ m g h,by simp [hp],by rw [hm,hn];simp,by rw [hm,hn];simp,fun j hj=>by
  unfold nZ
  by_cases c:j<m
  ·rw [show Nat.blt j m=true from Nat.ble_eq_true_of_le c]
   rw [List.getElem_append_left (by omega)]
   exact hg j (by omega)
  ·rw [show Nat.blt j m=false from Bool.eq_false_iff.2 fun x=>c (Nat.le_of_ble_eq_true x)]
   rw [List.length_append] at hj
   rw [List.getElem_append_right (by omega)]
   show h (j - m)=_
   subst hm
   exact hh (j - L.length) (by omega)⟩
theorem u2 {α:Type} {env:Env} {W:Nat->St->Option St} {fn:Func} {path:List Nat} {blk:Nat} {KK:Ex->St->Prop} {e st id:Nat} {f:α->List SV} (F:Nat->List α) (S:SV->Option SB->Nat->St) (n:Nat) {o0:SV} {r0:Option SB} (h0:cB e st id f (F 0) o0 r0)
  (hr: ∀i o b,i<n->cB e st id f (F i) o b-> ∀X:St->Prop,(∀o' b',cB e st id f (F (i+1)) o' b'->X (S o' b' (i+1)))->aF env W fn path blk (eT X KK) (S o b i))
  (he: ∀o b,cB e st id f (F n) o b-> ∀X:St->Prop,aF env W fn path blk (eT X KK) (S o b n)):
  iter (aF env W fn path blk) KK (n+1) (S o0 r0 0):=
 gV (fun a:SV×Option SB×Nat=>S a.1 a.2.1 a.2.2) (fun a=>n - a.2.2) (fun a=>a.2.2<=n/\cB e st id f (F a.2.2) a.1 a.2.1) (fun ⟨o,b,i⟩ ⟨h1,h2⟩ X hX=>by
  simp only at h1 h2 hX|-
  by_cases h:i<n
  ·exact hr i o b h h2 X fun o' b' ht=>hX (o',b',i+1) ⟨h,ht⟩ (by show n - (i+1)<n - i;omega)
  ·obtain rfl:i=n:=by omega
   exact he o b h2 X) (n+1) (o0,r0,0) ⟨Nat.zero_le _,h0⟩ (by show n - 0<n+1;omega)
end Go.Se
namespace Go.Proofs.YtghnfjfkjhbgdaaGreatDoor
open Go.Se
set_option maxRecDepth 100000
def dTk :List SV->List (Option SB)->KC->Prop
 | [.ptr 0 0,.str w,.int .i64 lo,.int .i64 hi],[some (.cells 130 cs)],K=> ∃(b:Bk) (all:Int),(cs=bkC all b/\aK b/\(0<=all/\all<=1048577))/\ ∀b':Bk,isB b' (gJ all b w lo hi)->
   Br (fV b w lo hi) (K .nils [some (.cells 130 (bkC all b'))] [0]) (∀p:List (List Int),isW p (iD b)->K (.ro p.length 1 (aH p)) [some (.cells 130 (bkC all b'))] [0])
 |_,_,_=>False
theorem aCG(xs:List SV)(σ:List (Option SB)):Sat Tryz.prog 81 xs σ (dTk xs σ):=by
 intro K hK
 unfold dTk at hK
 split at hK
 case h_2=>exact hK.elim
 obtain ⟨b,all,h,hK⟩:=hK
 refine aA1 _ _ K ?_
 unfold cTk
 refine ⟨b,all,h, ?_⟩
 rcases Br.elim (hK _ rfl) with ⟨c,hK⟩|⟨c,hK⟩
 ·rw [c];exact hK
 ·rw [c];exact hK _ rfl
def dNm :List SV->List (Option SB)->KC->Prop
 | [.ptr 0 0,.str s],[some (.cells 130 cs)],K=> ∃(b:Bk) (all:Int),cs=bkC all b/\ ∀(v:Int) (b':Bk),PV b s v b'->K (.int .i64 v) [some (.cells 130 (bkC all b'))] [0]
 |_,_,_=>False
theorem aCy(xs:List SV)(σ:List (Option SB)):Sat Tryz.prog 76 xs σ (dNm xs σ):=by
 intro K hK
 unfold dNm at hK
 split at hK
 case h_2=>exact hK.elim
 obtain ⟨b,all,h,hK⟩:=hK
 exact aAh _ _ K ⟨b,all,h,hK _ _ ⟨rfl,rfl⟩⟩
def dIt :List SV->List (Option SB)->KC->Prop
 | [.ptr 0 0,.str s,.int .i64 lo,.int .i64 hi],[some (.cells 130 cs)],K=> ∃(b:Bk) (all:Int),cs=bkC all b/\ ∀(v:Int) (b':Bk),MB b s lo hi v b'->K (.int .i64 v) [some (.cells 130 (bkC all b'))] [0]
 |_,_,_=>False
theorem aCE(xs:List SV)(σ:List (Option SB)):Sat Tryz.prog 41 xs σ (dIt xs σ):=by
 intro K hK
 unfold dIt at hK
 split at hK
 case h_2=>exact hK.elim
 obtain ⟨b,all,h,hK⟩:=hK
 exact YS _ _ K ⟨b,all,h,hK _ _ ⟨rfl,rfl⟩⟩
def dOn :List SV->List (Option SB)->KC->Prop
 | [.ptr 0 0,.str s,.arr 1 0 2 2],[some (.cells 130 cs),some (.cells t [.str a,.str c])],K=> ∃(b:Bk) (all:Int),cs=bkC all b/\ ∀(v:Int) (b':Bk),aEc b s a c v b'->K (.int .i64 v) [some (.cells 130 (bkC all b')),some (.cells t [.str a,.str c])] [0]
 |_,_,_=>False
theorem aBc(xs:List SV)(σ:List (Option SB)):Sat Tryz.prog 83 xs σ (dOn xs σ):=by
 intro K hK
 unfold dOn at hK
 split at hK
 case h_2=>exact hK.elim
 obtain ⟨b,all,h,hK⟩:=hK
 exact WC _ _ K ⟨b,all,h,hK _ _ ⟨rfl,rfl⟩⟩
def dOd :List SV->List (Option SB)->KC->Prop
 | [.ptr 0 0],[some (.cells 130 cs)],K=> ∃(b:Bk) (all:Int),cs=bkC all b/\ ∀b':Bk,isB b' (vI b)->K (.tup []) [some (.cells 130 (bkC all b'))] [0]
 |_,_,_=>False
theorem aCd(xs:List SV)(σ:List (Option SB)):Sat Tryz.prog 82 xs σ (dOd xs σ):=by
 intro K hK
 unfold dOd at hK
 split at hK
 case h_2=>exact hK.elim
 obtain ⟨b,all,h,hK⟩:=hK
 exact X1 _ _ K ⟨b,all,h,hK _ rfl⟩
noncomputable def o1 :bT Tryz.prog:=((((((((y6).add 31 (lI aBA) (d6 fun xs σ v σ' d h=>by
  unfold aBA at h;split at h
  ·simp only [Option.some.injEq,Prod.mk.injEq] at h
   obtain ⟨h1,rfl,rfl,rfl⟩:=h
   first|exact aU h1|exact aU _ h1|exact aU _ _ h1|exact aU _ _ _ h1|exact aU _ _ _ _ h1|exact aU _ _ _ _ _ h1|exact aU _ _ _ _ _ _ h1|exact aU _ _ _ _ _ _ _ h1|exact aU _ _ _ _ _ _ _ _ h1|exact aU _ _ _ _ _ _ _ _ _ h1|exact aU _ _ _ _ _ _ _ _ _ _ h1|exact aU _ _ _ _ _ _ _ _ _ _ _ h1|exact aU _ _ _ _ _ _ _ _ _ _ _ _ h1|exact aU (of_decide_eq_true h1)|exact aU _ (of_decide_eq_true h1)|exact aU _ _ (of_decide_eq_true h1)|exact aU _ _ _ (of_decide_eq_true h1)|exact aU _ _ _ _ (of_decide_eq_true h1)|exact aU _ _ _ _ _ (of_decide_eq_true h1)|exact aU _ _ _ _ _ _ (of_decide_eq_true h1)|exact aU _ _ _ _ _ _ _ (of_decide_eq_true h1)|exact aU _ _ _ _ _ _ _ _ (of_decide_eq_true h1)|exact aU _ _ _ _ _ _ _ _ _ (of_decide_eq_true h1)|exact aU _ _ _ _ _ _ _ _ _ _ (of_decide_eq_true h1)|exact aU _ _ _ _ _ _ _ _ _ _ _ (of_decide_eq_true h1)|exact aU _ _ _ _ _ _ _ _ _ _ _ _ (of_decide_eq_true h1)
  ·cases h)).add 81 dTk aCG).add 80 cNx WB).add 76 dNm aCy).add 41 dIt aCE).add 83 dOn aBc).add 82 dOd aCd).add 42 cEn aAr
theorem aDt(s:ByteArray)(n:Nat)(b:Bk)(all:Int)(K:KC):run o1 3 39 [.agg [.ptr 0 0],.str s,.int .i64 n] [some (.cells 130 (bkC all b))] K=
 (∃(e400:Bk),∃(e399:Int),((bkC all b)=bkC e399 e400/\aK e400/\0<=e399/\e399<=1048577)/\(∀(b'397:Bk),∀(_:isB b'397 (gJ e399 e400 s (↑n:Int) (↑n:Int))),Br (fV e400 s (↑n:Int) (↑n:Int)) (Br (decide (0<=(↑n:Int))&&(decide ((↑n:Int)<=(↑n:Int))&&(decide ((↑n:Int)*16<=1099511627776)&&decide ((↑n:Int)<9223372036854775808)))) (K (SV.own 1 0 1 (↑n:Int).toNat) [some (SB.cells 130 (bkC e399 b'397)),some (SB.row 9 1 (↑n:Int).toNat fun (x:Nat)=>[SV.str (⟨#[]⟩:ByteArray)])] [0]) (False)) (∀(p394:List (List Int)),∀(_:isW p394 (iD e400)),Br (decide (0<p394.length)) (K (SV.ro p394.length 1 (aH p394)) [some (SB.cells 130 (bkC e399 b'397))] [0]) (False)))):=by kernel_rfl
end Go.Proofs.YtghnfjfkjhbgdaaGreatDoor
namespace Go.Proofs.YtghnfjfkjhbgdaaGreatDoor
open Go.Se
set_option maxRecDepth 100000
theorem aFP(s:ByteArray)(n:Nat)(b:Bk)(all:Int)(hb:aK b)(ha:cP all)(hn:n<=1000)(h0:0<n):
  aD Tryz.prog 39 [.agg [.ptr 0 0],.str s,.int .i64 n] [some (.cells 130 (bkC all b))] (.ro n 1 (aH (lnV b s n))) [some (.cells 130 (bkC all (lnB all b s n)))] [0]:=by
 cases hc:fV b s n n with
 |false=>
  have hl:=FP hb hc
  refine aV o1 3 fun _ _ K hK=> ?_
  rw [aDt]
  refine ⟨b,all,⟨rfl,hb,ha⟩,fun b' h'=> ?_⟩
  rw [hc]
  refine fun p hp=>Br.of (fun _=> ?_) fun c=>absurd (of_decide_eq_false c) (by rw [hp,hl];omega)
  have e:lnV b s n=iD b:=by unfold lnV;rw [hc];rfl
  rw [e] at hK
  rw [hp,hl,h'];exact hK
 |true=>
  have e:lnV b s n=List.replicate n []:=by unfold lnV;rw [hc];rfl
  rw [e]
  refine sJ (T0:=130) (e:=9) (g:=fun _=>[SV.str (⟨#[]⟩:ByteArray)]) (st:=1) rfl (fun i hi=>⟨?_,rfl⟩) (aV o1 3 fun _ _ K hK=> ?_)
  ·show _=jE ((List.replicate n []).getD i [])
   rw [List.getD_eq_getElem?_getD,List.getElem?_replicate,if_pos hi];rfl
  ·rw [aDt]
   refine ⟨b,all,⟨rfl,hb,ha⟩,fun b' h'=> ?_⟩
   rw [hc]
   refine Br.of (fun _=>Br.of (fun _=> ?_) fun c=>absurd c (by simp;omega)) fun c=>by cases c
   rw [h',Int.toNat_natCast];exact hK
def dLi :List SV->List (Option SB)->KC->Prop
 | [.agg [.ptr 0 0],.str s,.int .i64 n],[some (.cells 130 cs)],K=> ∃(b:Bk) (all:Int) (m:Nat),((cs=bkC all b/\n=(m:Int))/\aK b/\cP all/\0<m/\m<=1000)/\ ∀(p:List (List Int)) (b':Bk),uP all b s m p b'->K (.ro m 1 (aH p)) [some (.cells 130 (bkC all b'))] [0]
 |_,_,_=>False
theorem aBW(xs:List SV)(σ:List (Option SB)):Sat Tryz.prog 39 xs σ (dLi xs σ):=by
 intro K hK
 unfold dLi at hK
 split at hK
 case h_2=>exact hK.elim
 obtain ⟨b,all,m,⟨⟨rfl,rfl⟩,hb,ha,h0,hm⟩,hK⟩:=hK
 exact ⟨_,_,_,hK _ _ ⟨⟨rfl,GV hb⟩,rfl⟩,aFP _ m b all hb ha hm h0⟩
noncomputable def o2 :bT Tryz.prog:=(o1).add 39 dLi aBW
def D2 :List (Nat×eR):=[(0,⟨[2,5,11,12,13],[0,1,2],[0,1,2,3,4,5,6,7,8],3,[(5,2)]⟩)]
noncomputable abbrev SI :Env:=fW D2 (fun _=>0) o2 2
noncomputable abbrev SG :Func:=Tryz.f77
abbrev SM :List Nat:=[1,1,0,1,0]
theorem N2(n:Nat)(g:List (List Int))(b:Bk)(all:Int)(K:KC):eA D2 (fun _=>0) o2 3 77 [.agg [.ptr 0 0],.ro n 1 (aH g)] [some (.cells 130 (bkC all b))] K=
 (Br (true&&(decide (0<=(↑n:Int))&&(decide ((↑n:Int)*8<=1099511627776)&&decide ((↑n:Int)<9223372036854775808)))) (∃q_,bO SI (aB D2 1) SG SM 0 1 K q_ {tmps:=[(2,SV.ptr 1 0),(5,SV.own 2 0 1 0),(11,SV.ro n 1 (aH g)),(12,SV.int .i64 (↑n:Int)),(13,SV.int .i64 0)],store:=[(0,some (SB.cells 130 (bkC all b))),(1,some (SB.cells 71 [SV.ptr 0 0])),(2,some (SB.row 22 1 0 fun (x:Nat)=>[SV.int .i64 0]))],nxt:=3,dirty:=[0,1,2,3,4,5,6,7,8],nt:=26}) (False)):=by kernel_rfl
def aAv(n:Nat)(p:List (List Int))(all:Int)(b:Bk)(m:Nat)(g:Nat->List SV)(i:Int):St:=⟨[(2,.ptr 1 0),(5,.own 2 0 1 m),(11,.ro n 1 (aH p)),(12,.int .i64 n),(13,.int .i64 i)],[(0,some (.cells 130 (bkC all b))),(1,some (.cells 71 [.ptr 0 0])),(2,some (.row 22 1 m g))],3,[0,1,2,3,4,5,6,7,8],26⟩
theorem BO(n:Nat)(p:List (List Int))(all:Int)(b:Bk)(m:Nat)(g:Nat->List SV)(i:Nat)(K:Ex->St->Prop):aF SI (aB D2 1) SG SM 0 K (aAv n p all b m g i)=
 (Br (decide ((↑i:Int)<(↑n:Int))) (Br (decide (0<=(↑i:Int))&&decide ((↑i:Int)<(↑n:Int))) (∃(e398:Bk),∃(e397:Int),((bkC all b)=bkC e397 e398)/\(∀(v395:Int),∀(b'394:Bk),∀(_:PV e398 (bytesOf (p.getD (↑i:Int).toNat [])) v395 b'394),Br (decide ((m+1)*8<=1099511627776)&&decide (m+1<9223372036854775808)&&decide (m=m)) (K Ex.normal {tmps:=[(2,SV.ptr 1 0),(5,SV.own 2 0 1 (m+1)),(11,SV.ro n 1 (aH p)),(12,SV.int .i64 (↑n:Int)),(13,SV.int .i64 (IntKind.i64.wrap ((↑i:Int)+1)))],store:=[(0,some (SB.cells 130 (bkC e397 b'394))),(1,some (SB.cells 71 [SV.ptr 0 0])),(2,some (SB.row 22 1 (m+1) (bI m [SV.int .i64 v395] g)))],nxt:=3,dirty:=[0,1,2,3,4,5,6,7,8],nt:=26}) (False))) (False)) (K (Ex.exit 0) {tmps:=[(2,SV.ptr 1 0),(5,SV.own 2 0 1 m),(11,SV.ro n 1 (aH p)),(12,SV.int .i64 (↑n:Int)),(13,SV.int .i64 (↑i:Int))],store:=[(0,some (SB.cells 130 (bkC all b))),(1,some (SB.cells 71 [SV.ptr 0 0])),(2,some (SB.row 22 1 m g))],nxt:=3,dirty:=[0,1,2,3,4,5,6,7,8],nt:=26})):=by kernel_rfl
theorem NC(n:Nat)(p:List (List Int))(all:Int)(b:Bk)(m:Nat)(g:Nat->List SV)(i:Nat)(K:KC):aE SI (aB D2 1) SG SM 1 K (.exit 0) (aAv n p all b m g i)=
 (K (SV.own 1 0 1 m) [some (SB.cells 130 (bkC all b)),some (SB.row 22 1 m g)] [0]):=by kernel_rfl
theorem aGa(n:Nat)(g:List (List Int))(b:Bk)(all:Int)(K:KC):run o2 3 40 [.agg [.ptr 0 0],.ro n 1 (aH g)] [some (.cells 130 (bkC all b))] K=
 (Br (true&&decide (0<(↑n:Int))) (∃(e399:Bk),∃(e398:Int),((bkC all b)=bkC e398 e399)/\(∀(v396:Int),∀(b'395:Bk),∀(_:PV e399 (bytesOf (g.getD (Int.toNat 0) [])) v396 b'395),Br (true&&decide (1<(↑n:Int))) (∃(e392:Bk),∃(e391:Int),((bkC e398 b'395)=bkC e391 e392)/\(∀(v389:Int),∀(b'388:Bk),∀(_:PV e392 (bytesOf (g.getD (Int.toNat 1) [])) v389 b'388),K (SV.agg [SV.int .i64 v396,SV.int .i64 v389]) [some (SB.cells 130 (bkC e391 b'388))] [0])) (False))) (False)):=by kernel_rfl
theorem ZM(p:List (List Int))(all:Int)(b0:Bk)(hp:p.length<=1000)(K:KC)(hK:K (.own 1 0 1 p.length) [some (.cells 130 (bkC all (g8 b0 p).2)),some (.row 22 1 p.length (aY eK 0 (g8 b0 p).1))] [0]):
  eA D2 (fun _=>0) o2 3 77 [.agg [.ptr 0 0],.ro p.length 1 (aH p)] [some (.cells 130 (bkC all b0))] K:=by
 rw [N2]
 refine Br.of (fun _=>⟨p.length+1, ?_⟩) fun c=>absurd c (by simp;omega)
 show iter (aF SI (aB D2 1) SG SM 0) (aE SI (aB D2 1) SG SM 1 K) (p.length+1) (aAv p.length p all (g8 b0 (p.take 0)).2 (g8 b0 (p.take 0)).1.length (aY eK 0 (g8 b0 (p.take 0)).1) ((0:Nat):Int))
 refine iQ (fun i:Nat=>aAv p.length p all (g8 b0 (p.take i)).2 (g8 b0 (p.take i)).1.length (aY eK 0 (g8 b0 (p.take i)).1) (i:Int)) p.length (fun _=>True) (fun i hi _ X hX=> ?_) (fun _ X=> ?_) trivial
 ·have hX:=hX trivial
  have hl:=tD b0 (p.take i)
  rw [List.length_take] at hl
  rw [MS b0 hi] at hX
  simp only [rT,<- CK,List.length_append,List.length_singleton] at hX
  rw [BO,aO hi (by omega),Int.toNat_natCast]
  refine Br.of (fun _=>Br.of (fun _=>⟨_,all,rfl,fun v b' hv=>Br.of (fun _=> ?_) fun c=>absurd c (by simp;omega)⟩) fun c=>nH hi c) fun c=>nF hi c
  rw [hv.1,hv.2];exact hX
 ·rw [BO,List.take_length]
  refine Br.of (fun c=>mD c) fun _=> ?_
  show aE SI (aB D2 1) SG SM 1 K (.exit 0) (aAv p.length p all (g8 b0 p).2 (g8 b0 p).1.length (aY eK 0 (g8 b0 p).1) (p.length:Nat))
  rw [NC,tD];exact hK
def dNs :List SV->List (Option SB)->KC->Prop
 | [.agg [.ptr 0 0],.ro n 1 g],[some (.cells 130 cs)],K=> ∃(p:List (List Int)) (b:Bk) (all:Int),((cs=bkC all b/\n=p.length/\g=aH p)/\p.length<=1000)/\ ∀(L:List Int) (b':Bk),aFa b p L b'->K (.ro n 1 (aY eK 0 L)) [some (.cells 130 (bkC all b'))] [0]
 |_,_,_=>False
theorem aBl(xs:List SV)(σ:List (Option SB)):Sat Tryz.prog 77 xs σ (dNs xs σ):=by
 intro K hK
 unfold dNs at hK
 split at hK
 case h_2=>exact hK.elim
 obtain ⟨p,b,all,⟨⟨rfl,rfl,rfl⟩,hp⟩,hK⟩:=hK
 refine ⟨_,_,_,hK _ _ ⟨⟨rfl,tD b p⟩,rfl⟩,sJ (T0:=130) (e:=22) rfl (fun i _=>⟨rfl,rfl⟩) (iC D2 (fun _=>0) o2 3 (fun q h=> ?_) fun _ _ K hK=>ZM p all b hp K (hK [0] fun _ h=>h))⟩
 show q<1
 obtain rfl:=List.mem_singleton.1 h;exact Nat.one_pos
def dPl :List SV->List (Option SB)->KC->Prop
 | [.agg [.ptr 0 0],.ro n 1 g],[some (.cells 130 cs)],K=> ∃(p:List (List Int)) (b:Bk) (all:Int),(cs=bkC all b/\g=aH p/\2<=n)/\ ∀(x y:Int) (b':Bk),JA b p x y b'->K (.agg [.int .i64 x,.int .i64 y]) [some (.cells 130 (bkC all b'))] [0]
 |_,_,_=>False
theorem aC0(xs:List SV)(σ:List (Option SB)):Sat Tryz.prog 40 xs σ (dPl xs σ):=by
 intro K hK
 unfold dPl at hK
 split at hK
 case h_2=>exact hK.elim
 obtain ⟨p,b,all,⟨rfl,rfl,hn⟩,hK⟩:=hK
 refine ⟨_,_,_,hK _ _ _ ⟨rfl,rfl⟩,aV o2 3 fun _ _ K hK=> ?_⟩
 rw [aGa]
 refine Br.of (fun _=>⟨b,all,rfl,fun v b1 h1=>Br.of (fun _=>⟨b1,all,rfl,fun u b2 h2=> ?_⟩) fun c=>absurd c (by simp;omega)⟩) fun c=>absurd c (by simp;omega)
 rw [h2.1,h2.2,h1.1,h1.2];exact hK
noncomputable def o3 :bT Tryz.prog:=((o2).add 77 dNs aBl).add 40 dPl aC0
theorem aFN(b:Bk)(all:Int)(K:KC):run o3 3 79 [.agg [.ptr 0 0]] [some (.cells 130 (bkC all b))] K=
 (∃(e400:Bk),∃(e399:Int),∃(e398:Nat),(((bkC all b)=bkC e399 e400/\3=(↑e398:Int))/\aK e400/\cP e399/\0<e398/\e398<=1000)/\(∀(p396:List (List Int)),∀(b'395:Bk),∀(_:uP e399 e400 (⟨#[107,105,110,100]⟩:ByteArray) e398 p396 b'395),Br (true&&decide (0<(↑e398:Int))) (∃(e392:Bk),∃(e391:Int),((bkC e399 b'395)=bkC e391 e392)/\(∀(v389:Int),∀(b'388:Bk),∀(_:PV e392 (bytesOf (p396.getD (Int.toNat 0) [])) v389 b'388),Br (true&&decide (1<(↑e398:Int))) (∃(e385:Bk),∃(e384:Int),((bkC e391 b'388)=bkC e384 e385)/\(∀(v382:Int),∀(b'381:Bk),∀(_:PV e385 (bytesOf (p396.getD (Int.toNat 1) [])) v382 b'381),Br (true&&decide (2<(↑e398:Int))) (∃(e378:Bk),∃(e377:Int),((bkC e384 b'381)=bkC e377 e378)/\(∀(v375:Int),∀(b'374:Bk),∀(_:aEc e378 (bytesOf (p396.getD (Int.toNat 2) [])) (⟨#[111,110]⟩:ByteArray) (⟨#[111,102,102]⟩:ByteArray) v375 b'374),K (SV.agg [SV.int .i64 v389,SV.int .i64 v382,SV.bool (v375==1)]) [some (SB.cells 130 (bkC e377 b'374))] [0])) (False))) (False))) (False))):=by kernel_rfl
theorem aFQ(b:Bk)(all:Int)(K:KC):run o3 3 34 [.agg [.ptr 0 0]] [some (.cells 130 (bkC all b))] K=
 (∃(e400:Bk),∃(e399:Int),∃(e398:Nat),(((bkC all b)=bkC e399 e400/\2=(↑e398:Int))/\aK e400/\cP e399/\0<e398/\e398<=1000)/\(∀(p396:List (List Int)),∀(b'395:Bk),∀(_:uP e399 e400 (⟨#[112,111,105,110,116]⟩:ByteArray) e398 p396 b'395),∃(e393:List (List Int)),∃(e392:Bk),∃(e391:Int),((bkC e399 b'395)=bkC e391 e392/\aH p396=aH e393/\2<=e398)/\(∀(x389:Int),∀(y388:Int),∀(b'387:Bk),∀(_:JA e392 e393 x389 y388 b'387),K (SV.agg [SV.int .i64 x389,SV.int .i64 y388]) [some (SB.cells 130 (bkC e391 b'387))] [0]))):=by kernel_rfl
theorem aFK(b:Bk)(all:Int)(K:KC):run o3 3 38 [.agg [.ptr 0 0]] [some (.cells 130 (bkC all b))] K=
 (∃(e400:Bk),∃(e399:Int),∃(e398:Nat),(((bkC all b)=bkC e399 e400/\5=(↑e398:Int))/\aK e400/\cP e399/\0<e398/\e398<=1000)/\(∀(p396:List (List Int)),∀(b'395:Bk),∀(_:uP e399 e400 (⟨#[103,97,116,101]⟩:ByteArray) e398 p396 b'395),∃(e393:List (List Int)),∃(e392:Bk),∃(e391:Int),((bkC e399 b'395)=bkC e391 e392/\aH p396=aH e393/\2<=e398)/\(∀(x389:Int),∀(y388:Int),∀(b'387:Bk),∀(_:JA e392 e393 x389 y388 b'387),Br (true&&(decide (2<=(↑e398:Int))&&decide ((↑e398:Int)<=(↑e398:Int)))) (∃(e384:List (List Int)),∃(e383:Bk),∃(e382:Int),((bkC e391 b'387)=bkC e382 e383/\(fun (i:Nat)=>aH p396 (i+2))=aH e384/\2<=(↑e398:Int).toNat - 2)/\(∀(x380:Int),∀(y379:Int),∀(b'378:Bk),∀(_:JA e383 e384 x380 y379 b'378),Br (true&&decide (4<(↑e398:Int))) (∃(e375:Bk),∃(e374:Int),((bkC e382 b'378)=bkC e374 e375)/\(∀(v372:Int),∀(b'371:Bk),∀(_:aEc e375 (bytesOf (p396.getD (Int.toNat 4) [])) (⟨#[112,108,97,105,110]⟩:ByteArray) (⟨#[115,112,108,105,116]⟩:ByteArray) v372 b'371),K (SV.agg [SV.int .i64 x389,SV.int .i64 y388,SV.int .i64 x380,SV.int .i64 y379,SV.bool (v372==1)]) [some (SB.cells 130 (bkC e374 b'371))] [0])) (False))) (False)))):=by kernel_rfl
def zF{α:Type}(V:α->SV)(O:Int->Bk->α->Bk->Prop):List SV->List (Option SB)->KC->Prop
 | [.agg [.ptr 0 0]],[some (.cells 130 cs)],K=> ∃(b:Bk) (all:Int),(cs=bkC all b/\aK b/\cP all)/\ ∀(x:α) (b':Bk),O all b x b'->K (V x) [some (.cells 130 (bkC all b'))] [0]
 |_,_,_=>False
theorem rJ {α:Type} {V:α->SV} {O:Int->Bk->α->Bk->Prop} {k:FuncId} {F:Int->Bk->α×Bk} (hO: ∀all b,O all b (F all b).1 (F all b).2) (h: ∀b all,aK b->cP all->aD Tryz.prog k [.agg [.ptr 0 0]] [some (.cells 130 (bkC all b))] (V (F all b).1) [some (.cells 130 (bkC all (F all b).2))] [0])
  (xs:List SV) (σ:List (Option SB)):Sat Tryz.prog k xs σ (zF V O xs σ):=by
 intro K hK
 unfold zF at hK
 split at hK
 case h_2=>exact hK.elim
 obtain ⟨b,all,⟨rfl,hb,ha⟩,hK⟩:=hK
 exact ⟨_,_,_,hK _ _ (hO all b),h b all hb ha⟩
def kdV(x:Int×Int×Bool):SV:= .agg [.int .i64 x.1,.int .i64 x.2.1,.bool x.2.2]
def ptV(x:Int×Int):SV:= .agg [.int .i64 x.1,.int .i64 x.2]
def gtV(x:Int×Int×Int×Int×Bool):SV:= .agg [.int .i64 x.1,.int .i64 x.2.1,.int .i64 x.2.2.1,.int .i64 x.2.2.2.1,.bool x.2.2.2.2]
theorem aFO(b:Bk)(all:Int)(hb:aK b)(ha:cP all):aD Tryz.prog 79 [.agg [.ptr 0 0]] [some (.cells 130 (bkC all b))] (kdV (g7 all b).1) [some (.cells 130 (bkC all (g7 all b).2))] [0]:=
 aV o3 3 fun _ _ K hK=>by
  rw [aFN]
  refine ⟨b,all,3,⟨⟨rfl,rfl⟩,hb,ha,by decide,by decide⟩,fun p b1 h1=>⟨b1,all,rfl,fun v2 b2 h2=>⟨b2,all,rfl,fun v3 b3 h3=>⟨b3,all,rfl,fun v4 b4 h4=> ?_⟩⟩⟩⟩
  obtain ⟨⟨rfl,_⟩,rfl⟩:=h1
  obtain ⟨rfl,rfl⟩:=h2
  obtain ⟨rfl,rfl⟩:=h3
  obtain ⟨rfl,rfl⟩:=h4
  exact hK
theorem aFY(b:Bk)(all:Int)(hb:aK b)(ha:cP all):aD Tryz.prog 34 [.agg [.ptr 0 0]] [some (.cells 130 (bkC all b))] (ptV (fL all b).1) [some (.cells 130 (bkC all (fL all b).2))] [0]:=
 aV o3 3 fun _ _ K hK=>by
  rw [aFQ]
  refine ⟨b,all,2,⟨⟨rfl,rfl⟩,hb,ha,by decide,by decide⟩,fun p b1 h1=>⟨p,b1,all,⟨rfl,rfl,by decide⟩,fun x y b2 h2=> ?_⟩⟩
  obtain ⟨⟨rfl,_⟩,rfl⟩:=h1
  obtain ⟨h2,rfl⟩:=h2
  cases h2
  exact hK
theorem aGc(b:Bk)(all:Int)(hb:aK b)(ha:cP all):aD Tryz.prog 38 [.agg [.ptr 0 0]] [some (.cells 130 (bkC all b))] (gtV (iW all b).1) [some (.cells 130 (bkC all (iW all b).2))] [0]:=
 aV o3 3 fun _ _ K hK=>by
  rw [aFK]
  refine ⟨b,all,5,⟨⟨rfl,rfl⟩,hb,ha,by decide,by decide⟩,fun p b1 h1=>⟨p,b1,all,⟨rfl,rfl,by decide⟩,fun x y b2 h2=>⟨p.drop 2,b2,all,⟨rfl,vC p 2,by decide⟩,fun z u b3 h3=>⟨b3,all,rfl,fun v b4 h4=> ?_⟩⟩⟩⟩
  obtain ⟨⟨rfl,_⟩,rfl⟩:=h1
  obtain ⟨h2,rfl⟩:=h2
  obtain ⟨h3,rfl⟩:=h3
  obtain ⟨rfl,rfl⟩:=h4
  rw [AU] at h3|-
  cases h2;cases h3
  exact hK
theorem aBf(xs:List SV)(σ:List (Option SB)):Sat Tryz.prog 79 xs σ (zF kdV (isF g7) xs σ):=rJ (F:=g7) (fun _ _=>rfl) aFO xs σ
theorem aCj(xs:List SV)(σ:List (Option SB)):Sat Tryz.prog 34 xs σ (zF ptV (isF fL) xs σ):=rJ (F:=fL) (fun _ _=>rfl) aFY xs σ
theorem aC1(xs:List SV)(σ:List (Option SB)):Sat Tryz.prog 38 xs σ (zF gtV (isF iW) xs σ):=rJ (F:=iW) (fun _ _=>rfl) aGc xs σ
def oO :List (Nat×eR):=[(0,⟨[1,3,4,5],[0,1,2],[0,1,2,3,4,5,6,7,8],3,[(4,2)]⟩)]
noncomputable abbrev rO :Env:=fW oO (fun _=>0) o3 2
noncomputable abbrev sX :Func:=Tryz.f36
abbrev sQ :List Nat:=[1,1,1,1,0,1,0]
def zJ(V:SV)(all:Int)(b:Bk)(o:SV)(r:Option SB)(i:Int):St:=⟨[(1,.ptr 1 0),(3,V),(4,o),(5,.int .i64 i)],[(0,some (.cells 130 (bkC all b))),(1,some (.cells 71 [.ptr 0 0])),(2,r)],3,[0,1,2,3,4,5,6,7,8],31⟩
theorem TR(b:Bk)(all:Int)(K:KC):eA oO (fun _=>0) o3 3 36 [.agg [.ptr 0 0]] [some (.cells 130 (bkC all b))] K=
 (∃(e400:Bk),∃(e399:Int),((bkC all b)=bkC e399 e400/\aK e400/\0<=e399/\e399<=1048577)/\(∀(b'397:Bk),∀(_:isB b'397 (gJ e399 e400 (⟨#[114,97,105,108]⟩:ByteArray) 2 128)),Br (fV e400 (⟨#[114,97,105,108]⟩:ByteArray) 2 128) (∃q_,bO rO (aB oO 1) sX sQ 0 1 K q_ {tmps:=[(1,SV.ptr 1 0),(3,SV.nils),(4,SV.nils),(5,SV.int .i64 0)],store:=[(0,some (SB.cells 130 (bkC e399 b'397))),(1,some (SB.cells 71 [SV.ptr 0 0])),(2,none)],nxt:=3,dirty:=[0,1,2,3,4,5,6,7,8],nt:=31}) (∀(p394:List (List Int)),∀(_:isW p394 (iD e400)),Br ((↑p394.length:Int).tmod 2==1) (∃(e391:Bk),∃(e390:Int),((bkC e399 b'397)=bkC e390 e391)/\(∀(b'388:Bk),∀(_:isB b'388 (vI e391)),K SV.nils [some (SB.cells 130 (bkC e390 b'388))] [0])) (∃q_,bO rO (aB oO 1) sX sQ 0 1 K q_ {tmps:=[(1,SV.ptr 1 0),(3,SV.ro p394.length 1 (aH p394)),(4,SV.nils),(5,SV.int .i64 0)],store:=[(0,some (SB.cells 130 (bkC e399 b'397))),(1,some (SB.cells 71 [SV.ptr 0 0])),(2,none)],nxt:=3,dirty:=[0,1,2,3,4,5,6,7,8],nt:=31})))):=by kernel_rfl
theorem aEU(b:Bk)(all:Int)(K:Ex->St->Prop):aF rO (aB oO 1) sX sQ 0 K (zJ .nils all b .nils none 0)=
 (K (Ex.exit 0) {tmps:=[(1,SV.ptr 1 0),(3,SV.nils),(4,SV.nils),(5,SV.int .i64 0)],store:=[(0,some (SB.cells 130 (bkC all b))),(1,some (SB.cells 71 [SV.ptr 0 0])),(2,none)],nxt:=3,dirty:=[0,1,2,3,4,5,6,7,8],nt:=31}):=by kernel_rfl
theorem aDL(b:Bk)(all:Int)(K:KC):aE rO (aB oO 1) sX sQ 1 K (.exit 0) (zJ .nils all b .nils none 0)=
 (K SV.nils [some (SB.cells 130 (bkC all b))] [0]):=by kernel_rfl
theorem WW(n:Nat)(p:List (List Int))(b:Bk)(all:Int)(i:Nat)(K:Ex->St->Prop):aF rO (aB oO 1) sX sQ 0 K (zJ (.ro n 1 (aH p)) all b .nils none i)=
 (Br (decide ((↑i:Int)<(↑n:Int))) (Br (decide (0<=(↑i:Int))&&(decide ((↑i:Int)<=(↑n:Int))&&decide ((↑n:Int)<=(↑n:Int)))) (∃(e398:List (List Int)),∃(e397:Bk),∃(e396:Int),((bkC all b)=bkC e396 e397/\(fun (i_1:Nat)=>aH p (i_1+(↑i:Int).toNat))=aH e398/\2<=(↑n:Int).toNat - (↑i:Int).toNat)/\(∀(x394:Int),∀(y393:Int),∀(b'392:Bk),∀(_:JA e397 e398 x394 y393 b'392),K Ex.normal {tmps:=[(1,SV.ptr 1 0),(3,SV.ro n 1 (aH p)),(4,SV.own 2 0 2 1),(5,SV.int .i64 (IntKind.i64.wrap ((↑i:Int)+2)))],store:=[(0,some (SB.cells 130 (bkC e396 b'392))),(1,some (SB.cells 71 [SV.ptr 0 0])),(2,some (SB.row 24 2 1 fun (i:Nat)=>cut [SV.int .i64 x394,SV.int .i64 y393] (i*2) 2))],nxt:=3,dirty:=[0,1,2,3,4,5,6,7,8],nt:=31})) (False)) (K (Ex.exit 0) {tmps:=[(1,SV.ptr 1 0),(3,SV.ro n 1 (aH p)),(4,SV.nils),(5,SV.int .i64 (↑i:Int))],store:=[(0,some (SB.cells 130 (bkC all b))),(1,some (SB.cells 71 [SV.ptr 0 0])),(2,none)],nxt:=3,dirty:=[0,1,2,3,4,5,6,7,8],nt:=31})):=by kernel_rfl
theorem YA(n:Nat)(p:List (List Int))(b:Bk)(all:Int)(m:Nat)(g:Nat->List SV)(i:Nat)(K:Ex->St->Prop):aF rO (aB oO 1) sX sQ 0 K (zJ (.ro n 1 (aH p)) all b (.own 2 0 2 m) (some (.row 24 2 m g)) i)=
 (Br (decide ((↑i:Int)<(↑n:Int))) (Br (decide (0<=(↑i:Int))&&(decide ((↑i:Int)<=(↑n:Int))&&decide ((↑n:Int)<=(↑n:Int)))) (∃(e398:List (List Int)),∃(e397:Bk),∃(e396:Int),((bkC all b)=bkC e396 e397/\(fun (i_1:Nat)=>aH p (i_1+(↑i:Int).toNat))=aH e398/\2<=(↑n:Int).toNat - (↑i:Int).toNat)/\(∀(x394:Int),∀(y393:Int),∀(b'392:Bk),∀(_:JA e397 e398 x394 y393 b'392),Br (decide ((m+1)*16<=1099511627776)&&decide (m+1<9223372036854775808)&&decide (m=m)) (K Ex.normal {tmps:=[(1,SV.ptr 1 0),(3,SV.ro n 1 (aH p)),(4,SV.own 2 0 2 (m+1)),(5,SV.int .i64 (IntKind.i64.wrap ((↑i:Int)+2)))],store:=[(0,some (SB.cells 130 (bkC e396 b'392))),(1,some (SB.cells 71 [SV.ptr 0 0])),(2,some (SB.row 24 2 (m+1) (bI m [SV.int .i64 x394,SV.int .i64 y393] g)))],nxt:=3,dirty:=[0,1,2,3,4,5,6,7,8],nt:=31}) (False))) (False)) (K (Ex.exit 0) {tmps:=[(1,SV.ptr 1 0),(3,SV.ro n 1 (aH p)),(4,SV.own 2 0 2 m),(5,SV.int .i64 (↑i:Int))],store:=[(0,some (SB.cells 130 (bkC all b))),(1,some (SB.cells 71 [SV.ptr 0 0])),(2,some (SB.row 24 2 m g))],nxt:=3,dirty:=[0,1,2,3,4,5,6,7,8],nt:=31})):=by kernel_rfl
theorem aEf(n:Nat)(p:List (List Int))(b:Bk)(all:Int)(i:Nat)(K:KC):aE rO (aB oO 1) sX sQ 1 K (.exit 0) (zJ (.ro n 1 (aH p)) all b .nils none i)=
 (K SV.nils [some (SB.cells 130 (bkC all b))] [0]):=by kernel_rfl
theorem aFz(n:Nat)(p:List (List Int))(b:Bk)(all:Int)(m:Nat)(g:Nat->List SV)(i:Nat)(K:KC):aE rO (aB oO 1) sX sQ 1 K (.exit 0) (zJ (.ro n 1 (aH p)) all b (.own 2 0 2 m) (some (.row 24 2 m g)) i)=
 (K (SV.own 1 0 2 m) [some (SB.cells 130 (bkC all b)),some (SB.row 24 2 m g)] [0]):=by kernel_rfl
theorem aBp(b0:Bk)(all:Int)(hb:aK b0)(ha:cP all)(K:KC)(hK:nC 24 2 plL (fI all b0).1 (.cells 130 (bkC all (fI all b0).2)) K):
  eA oO (fun _=>0) o3 3 36 [.agg [.ptr 0 0]] [some (.cells 130 (bkC all b0))] K:=by
 rw [TR]
 refine ⟨b0,all,⟨rfl,hb,ha⟩,fun b1 h1=> ?_⟩
 rw [show b1=gJ all b0 (ba eC) 2 128 from h1]
 clear h1
 have e:(⟨#[114,97,105,108]⟩:ByteArray)=ba eC:=rfl
 rw [e]
 unfold fI at hK
 refine Br.of (fun c=> ?_) fun c p hp=> ?_
 ·simp only [c,cond_true,List.length_nil,Nat.zero_mod] at hK
  have hK:K .nils [some (.cells 130 (bkC all (gJ all b0 (ba eC) 2 128)))] [0]:=hK.1 rfl
  refine ⟨1, ?_⟩
  show aF rO (aB oO 1) sX sQ 0 (eT (iter (aF rO (aB oO 1) sX sQ 0) (aE rO (aB oO 1) sX sQ 1 K) 0) (aE rO (aB oO 1) sX sQ 1 K)) (zJ .nils all (gJ all b0 (ba eC) 2 128) .nils none 0)
  rw [aEU]
  show aE rO (aB oO 1) sX sQ 1 K (.exit 0) (zJ .nils all (gJ all b0 (ba eC) 2 128) .nils none 0)
  rw [aDL];exact hK
 ·obtain rfl:p=iD b0:=hp
  simp only [c,cond_false] at hK
  have hrg:=FM hb c
  generalize iD b0=p at*
  generalize gJ all b0 (ba eC) 2 128=b at*
  have hmod:((p.length:Int).tmod 2==1)=(p.length%2==1):=by
   rw [show (p.length:Int).tmod 2=((p.length%2:Nat):Int) from by rw [Int.tmod_eq_emod_of_nonneg (by omega)];omega]
   rw [Bool.eq_iff_iff,beq_iff_eq,beq_iff_eq];omega
  rw [hmod]
  refine Br.of (fun c2=> ?_) fun c2=> ?_
  ·rw [c2] at hK
   exact ⟨b,all,rfl,fun b' h'=>by rw [show b'=vI b from h'];exact hK.1 rfl⟩
  ·rw [c2] at hK
   simp only [cond_false] at hK
   have hev:p.length%2=0:=by
    have:p.length%2≠1:=fun e=>by rw [e] at c2;cases c2
    omega
   refine ⟨p.length/2+1, ?_⟩
   show iter (aF rO (aB oO 1) sX sQ 0) (aE rO (aB oO 1) sX sQ 1 K) (p.length/2+1) (zJ (.ro p.length 1 (aH p)) all (oF b p 0).2 .nils none ((2*0:Nat):Int))
   refine UN (e:=24) (st:=2) (id:=2) (f:=plL) (fun i=>(oF b p i).1) (fun o r i=>zJ (.ro p.length 1 (aH p)) all (oF b p i).2 o r ((2*i:Nat):Int)) (p.length/2) rfl (fun i o r hi ht X hX=> ?_) fun o r ht X=> ?_
   ·have hl:=AP b p i
    have hi2:2*i<p.length:=by omega
    have hw:IntKind.i64.wrap (((2*i:Nat):Int)+2)=((2*(i+1):Nat):Int):=by rw [gY];omega
    rcases ht with ⟨h0,rfl,rfl⟩|⟨g,hne,rfl,rfl,hg⟩
    ·rw [WW,hw]
     refine Br.of (fun _=>Br.of (fun _=>⟨p.drop (2*i),_,all,⟨rfl,by rw [Int.toNat_natCast];exact vC p _,by rw [Int.toNat_natCast,Int.toNat_natCast];omega⟩,fun x y b' hv=> ?_⟩) fun c=>absurd c (by simp;omega)) fun c=>nF hi2 c
     obtain ⟨h1,rfl⟩:=hv
     rw [AU] at h1|-
     refine hX _ _ ?_
     show cB _ 2 2 plL ((oF b p i).1++[(plP (oF b p i).2 p (2*i)).1]) _ _
     rw [h0,<- h1]
     exact eO rfl rfl
    ·rw [YA,hw]
     refine Br.of (fun _=>Br.of (fun _=>⟨p.drop (2*i),_,all,⟨rfl,by rw [Int.toNat_natCast];exact vC p _,by rw [Int.toNat_natCast,Int.toNat_natCast];omega⟩,fun x y b' hv=>Br.of (fun _=> ?_) fun c=>absurd c (by simp;omega)⟩) fun c=>absurd c (by simp;omega)) fun c=>nF hi2 c
     obtain ⟨h1,rfl⟩:=hv
     rw [AU] at h1|-
     refine hX _ _ ?_
     show cB _ 2 2 plL ((oF b p i).1++[(plP (oF b p i).2 p (2*i)).1]) _ _
     rw [<- h1]
     exact fM rfl rfl hg
   ·have he:2*(p.length/2)=p.length:=by omega
    rw [he]
    refine oS ht hK (fun h1 h2 hK=> ?_) fun m g h1 h2 hK=> ?_
    ·subst h1;subst h2
     rw [WW]
     refine Br.of (fun c=>mD c) fun _=> ?_
     show aE rO (aB oO 1) sX sQ 1 K (.exit 0) (zJ (.ro p.length 1 (aH p)) all (oF b p (p.length/2)).2 .nils none (p.length:Nat))
     rw [aEf];exact hK
    ·subst h1;subst h2
     rw [YA]
     refine Br.of (fun c=>mD c) fun _=> ?_
     show aE rO (aB oO 1) sX sQ 1 K (.exit 0) (zJ (.ro p.length 1 (aH p)) all (oF b p (p.length/2)).2 (.own 2 0 2 m) (some (.row 24 2 m g)) (p.length:Nat))
     rw [aFz];exact hK
end Go.Proofs.YtghnfjfkjhbgdaaGreatDoor
namespace Go.Proofs.YtghnfjfkjhbgdaaGreatDoor
open Go.Se
set_option maxRecDepth 100000
def rlV(x:List (Int×Int)):SV:= .ro x.length 2 (aY plL (0,0) x)
theorem x0(b:Bk)(all:Int):ids.idsL (bkC all b)=[]:=rfl
theorem aFD(b:Bk)(all:Int)(hb:aK b)(ha:cP all):aD Tryz.prog 36 [.agg [.ptr 0 0]] [some (.cells 130 (bkC all b))] (rlV (fI all b).1) [some (.cells 130 (bkC all (fI all b).2))] [0]:=
 jW (x0 _ _) (fun _=>rfl) fun K hK=>bX (env:=tab.env o3 (fun _=>0) (fun _=>false)) ⟨tab.htt,o3.ok⟩ tab.mixed (fun n=>bC n oO) tab.hft 3 _ _ _ K (aBp b all hb ha K hK)
theorem aCF(xs:List SV)(σ:List (Option SB)):Sat Tryz.prog 36 xs σ (zF rlV (isF fI) xs σ):=rJ (F:=fI) (fun _ _=>rfl) aFD xs σ
noncomputable def o4 :bT Tryz.prog:=((((o3).add 79 (zF kdV (isF g7)) aBf).add 34 (zF ptV (isF fL)) aCj).add 38 (zF gtV (isF iW)) aC1).add 36 (zF rlV (isF fI)) aCF
def myR :List (Nat×eR):=[(0,⟨[1,2,3,4,9],[0,1,2],[0,1,2,3,4,5,6,7,8],3,[(9,2)]⟩)]
noncomputable abbrev myE :Env:=fW myR (fun _=>0) o4 2
abbrev myP :List Nat:=[1,1,0,0]
def myS(f:FuncId)(w:ByteArray)(most:Nat)(all:Int)(b:Bk)(o:SV)(r:Option SB):St:=⟨[(1,.str w),(2,.int .i64 most),(3,.fn (.func f) [.agg [.ptr 0 0]] []),(4,.ptr 1 0),(9,o)],[(0,some (.cells 130 (bkC all b))),(1,some (.cells 71 [.ptr 0 0])),(2,r)],3,[0,1,2,3,4,5,6,7,8],26⟩
def dMy{α:Type}(f:FuncId)(st:Nat)(R:α->List SV)(d0:α)(F:Int->Bk->α×Bk):List SV->List (Option SB)->KC->Prop
 | [.agg [.ptr 0 0],.str w,.int .i64 most,.fn (.func f') [.agg [.ptr 0 0]] []],[some (.cells 130 cs)],K=> ∃(b:Bk) (all:Int) (m:Nat),((cs=bkC all b/\most=(m:Int)/\f'=f)/\aK b/\cP all/\m<=1000)/\ ∀(L:List α) (b':Bk),OV w (F all) m b L b'->K (.ro L.length st (aY R d0 L)) [some (.cells 130 (bkC all b'))] [0]
 |_,_,_=>False
theorem zZ {α:Type} {f:FuncId} {st:Nat} {R:α->List SV} {d0:α} {F:Int->Bk->α×Bk} {k:FuncId} (h: ∀w m b all,aK b->cP all->m<=1000->aD Tryz.prog k [.agg [.ptr 0 0],.str w,.int .i64 (m:Nat),.fn (.func f) [.agg [.ptr 0 0]] []] [some (.cells 130 (bkC all b))] (.ro (cY w (F all) m ([],b)).1.length st (aY R d0 (cY w (F all) m ([],b)).1)) [some (.cells 130 (bkC all (cY w (F all) m ([],b)).2))] [0])
  (xs:List SV) (σ:List (Option SB)):Sat Tryz.prog k xs σ (dMy f st R d0 F xs σ):=by
 intro K hK
 unfold dMy at hK
 split at hK
 case h_2=>exact hK.elim
 obtain ⟨b,all,m,⟨⟨rfl,rfl,rfl⟩,hb,ha,hm⟩,hK⟩:=hK
 exact ⟨_,_,_,hK _ _ rfl,h _ m b all hb ha hm⟩
noncomputable abbrev O2 :Func:=Tryz.f78
abbrev x5(w:ByteArray)(most:Nat)(all:Int)(b:Bk)(o:SV)(r:Option SB):St:=myS 79 w most all b o r
theorem TG(w:ByteArray)(most:Nat)(all:Int)(b:Bk)(K:KC):eA myR (fun _=>0) o4 3 78 [.agg [.ptr 0 0],.str w,.int .i64 (most:Nat),.fn (.func 79) [.agg [.ptr 0 0]] []] [some (.cells 130 (bkC all b))] K=
 (∃q_,bO myE (aB myR 1) O2 myP 0 1 K q_ (x5 w most all b (SV.nils) (none))):=by kernel_rfl
theorem aEx(w:ByteArray)(most:Nat)(all:Int)(b:Bk)(K:Ex->St->Prop):aF myE (aB myR 1) O2 myP 0 K (x5 w most all b .nils none)=
 (Br (decide (0<(↑most:Int))) (∃(e399:Bk),∃(e398:Int),((bkC all b)=bkC e398 e399/\aK e399)/\(Br (fG e399 w) (∃(e395:Bk),∃(e394:Int),((bkC e398 e399)=bkC e394 e395/\aK e395/\cP e394)/\(∀(x392:Int×Int×Bool),∀(b'391:Bk),∀(_:isF g7 e394 e395 x392 b'391),K Ex.normal (x5 w most e394 b'391 (SV.own 2 0 3 1) (some (SB.row 107 3 1 fun (i:Nat)=>cut [SV.int .i64 x392.fst,SV.int .i64 x392.snd.fst,SV.bool x392.snd.snd] (i*3) 3))))) (K (Ex.exit 0) (x5 w most e398 e399 (SV.nils) (none))))) (K (Ex.exit 0) (x5 w most all b (SV.nils) (none)))):=by kernel_rfl
theorem aD2(w:ByteArray)(most:Nat)(all:Int)(b:Bk)(n:Nat)(g:Nat->List SV)(K:Ex->St->Prop):aF myE (aB myR 1) O2 myP 0 K (x5 w most all b (.own 2 0 3 n) (some (.row 107 3 n g)))=
 (Br (decide ((↑n:Int)<(↑most:Int))) (∃(e399:Bk),∃(e398:Int),((bkC all b)=bkC e398 e399/\aK e399)/\(Br (fG e399 w) (∃(e395:Bk),∃(e394:Int),((bkC e398 e399)=bkC e394 e395/\aK e395/\cP e394)/\(∀(x392:Int×Int×Bool),∀(b'391:Bk),∀(_:isF g7 e394 e395 x392 b'391),Br (decide ((n+1)*24<=1099511627776)&&decide (n+1<9223372036854775808)&&decide (n=n)) (K Ex.normal (x5 w most e394 b'391 (SV.own 2 0 3 (n+1)) (some (SB.row 107 3 (n+1) (bI n [SV.int .i64 x392.fst,SV.int .i64 x392.snd.fst,SV.bool x392.snd.snd] g))))) (False))) (K (Ex.exit 0) (x5 w most e398 e399 (SV.own 2 0 3 n) (some (SB.row 107 3 n g)))))) (K (Ex.exit 0) (x5 w most all b (SV.own 2 0 3 n) (some (SB.row 107 3 n g))))):=by kernel_rfl
theorem aDT(w:ByteArray)(most:Nat)(all:Int)(b:Bk)(K:KC):aE myE (aB myR 1) O2 myP 1 K (.exit 0) (x5 w most all b .nils none)=
 (K SV.nils [some (SB.cells 130 (bkC all b))] [0]):=by kernel_rfl
theorem aDE(w:ByteArray)(most:Nat)(all:Int)(b:Bk)(n:Nat)(g:Nat->List SV)(K:KC):aE myE (aB myR 1) O2 myP 1 K (.exit 0) (x5 w most all b (.own 2 0 3 n) (some (.row 107 3 n g)))=
 (K (SV.own 1 0 3 n) [some (SB.cells 130 (bkC all b)),some (SB.row 107 3 n g)] [0]):=by kernel_rfl
noncomputable abbrev OL :Func:=Tryz.f33
abbrev xQ(w:ByteArray)(most:Nat)(all:Int)(b:Bk)(o:SV)(r:Option SB):St:=myS 34 w most all b o r
theorem S5(w:ByteArray)(most:Nat)(all:Int)(b:Bk)(K:KC):eA myR (fun _=>0) o4 3 33 [.agg [.ptr 0 0],.str w,.int .i64 (most:Nat),.fn (.func 34) [.agg [.ptr 0 0]] []] [some (.cells 130 (bkC all b))] K=
 (∃q_,bO myE (aB myR 1) OL myP 0 1 K q_ (xQ w most all b (SV.nils) (none))):=by kernel_rfl
theorem aFA(w:ByteArray)(most:Nat)(all:Int)(b:Bk)(K:Ex->St->Prop):aF myE (aB myR 1) OL myP 0 K (xQ w most all b .nils none)=
 (Br (decide (0<(↑most:Int))) (∃(e399:Bk),∃(e398:Int),((bkC all b)=bkC e398 e399/\aK e399)/\(Br (fG e399 w) (∃(e395:Bk),∃(e394:Int),((bkC e398 e399)=bkC e394 e395/\aK e395/\cP e394)/\(∀(x392:Int×Int),∀(b'391:Bk),∀(_:isF fL e394 e395 x392 b'391),K Ex.normal (xQ w most e394 b'391 (SV.own 2 0 2 1) (some (SB.row 24 2 1 fun (i:Nat)=>cut [SV.int .i64 x392.fst,SV.int .i64 x392.snd] (i*2) 2))))) (K (Ex.exit 0) (xQ w most e398 e399 (SV.nils) (none))))) (K (Ex.exit 0) (xQ w most all b (SV.nils) (none)))):=by kernel_rfl
theorem aEq(w:ByteArray)(most:Nat)(all:Int)(b:Bk)(n:Nat)(g:Nat->List SV)(K:Ex->St->Prop):aF myE (aB myR 1) OL myP 0 K (xQ w most all b (.own 2 0 2 n) (some (.row 24 2 n g)))=
 (Br (decide ((↑n:Int)<(↑most:Int))) (∃(e399:Bk),∃(e398:Int),((bkC all b)=bkC e398 e399/\aK e399)/\(Br (fG e399 w) (∃(e395:Bk),∃(e394:Int),((bkC e398 e399)=bkC e394 e395/\aK e395/\cP e394)/\(∀(x392:Int×Int),∀(b'391:Bk),∀(_:isF fL e394 e395 x392 b'391),Br (decide ((n+1)*16<=1099511627776)&&decide (n+1<9223372036854775808)&&decide (n=n)) (K Ex.normal (xQ w most e394 b'391 (SV.own 2 0 2 (n+1)) (some (SB.row 24 2 (n+1) (bI n [SV.int .i64 x392.fst,SV.int .i64 x392.snd] g))))) (False))) (K (Ex.exit 0) (xQ w most e398 e399 (SV.own 2 0 2 n) (some (SB.row 24 2 n g)))))) (K (Ex.exit 0) (xQ w most all b (SV.own 2 0 2 n) (some (SB.row 24 2 n g))))):=by kernel_rfl
theorem aDG(w:ByteArray)(most:Nat)(all:Int)(b:Bk)(K:KC):aE myE (aB myR 1) OL myP 1 K (.exit 0) (xQ w most all b .nils none)=
 (K SV.nils [some (SB.cells 130 (bkC all b))] [0]):=by kernel_rfl
theorem aFd(w:ByteArray)(most:Nat)(all:Int)(b:Bk)(n:Nat)(g:Nat->List SV)(K:KC):aE myE (aB myR 1) OL myP 1 K (.exit 0) (xQ w most all b (.own 2 0 2 n) (some (.row 24 2 n g)))=
 (K (SV.own 1 0 2 n) [some (SB.cells 130 (bkC all b)),some (SB.row 24 2 n g)] [0]):=by kernel_rfl
noncomputable abbrev M5 :Func:=Tryz.f35
abbrev w7(w:ByteArray)(most:Nat)(all:Int)(b:Bk)(o:SV)(r:Option SB):St:=myS 36 w most all b o r
theorem SA(w:ByteArray)(most:Nat)(all:Int)(b:Bk)(K:KC):eA myR (fun _=>0) o4 3 35 [.agg [.ptr 0 0],.str w,.int .i64 (most:Nat),.fn (.func 36) [.agg [.ptr 0 0]] []] [some (.cells 130 (bkC all b))] K=
 (∃q_,bO myE (aB myR 1) M5 myP 0 1 K q_ (w7 w most all b (SV.nils) (none))):=by kernel_rfl
theorem aDF(w:ByteArray)(most:Nat)(all:Int)(b:Bk)(K:Ex->St->Prop):aF myE (aB myR 1) M5 myP 0 K (w7 w most all b .nils none)=
 (Br (decide (0<(↑most:Int))) (∃(e399:Bk),∃(e398:Int),((bkC all b)=bkC e398 e399/\aK e399)/\(Br (fG e399 w) (∃(e395:Bk),∃(e394:Int),((bkC e398 e399)=bkC e394 e395/\aK e395/\cP e394)/\(∀(x392:List (Int×Int)),∀(b'391:Bk),∀(_:isF fI e394 e395 x392 b'391),K Ex.normal (w7 w most e394 b'391 (SV.own 2 0 1 1) (some (SB.row 28 1 1 fun (i:Nat)=>cut [SV.ro x392.length 2 (aY plL (0,0) x392)] (i*1) 1))))) (K (Ex.exit 0) (w7 w most e398 e399 (SV.nils) (none))))) (K (Ex.exit 0) (w7 w most all b (SV.nils) (none)))):=by kernel_rfl
theorem aDH(w:ByteArray)(most:Nat)(all:Int)(b:Bk)(n:Nat)(g:Nat->List SV)(K:Ex->St->Prop):aF myE (aB myR 1) M5 myP 0 K (w7 w most all b (.own 2 0 1 n) (some (.row 28 1 n g)))=
 (Br (decide ((↑n:Int)<(↑most:Int))) (∃(e399:Bk),∃(e398:Int),((bkC all b)=bkC e398 e399/\aK e399)/\(Br (fG e399 w) (∃(e395:Bk),∃(e394:Int),((bkC e398 e399)=bkC e394 e395/\aK e395/\cP e394)/\(∀(x392:List (Int×Int)),∀(b'391:Bk),∀(_:isF fI e394 e395 x392 b'391),Br (decide ((n+1)*24<=1099511627776)&&decide (n+1<9223372036854775808)&&decide (n=n)) (K Ex.normal (w7 w most e394 b'391 (SV.own 2 0 1 (n+1)) (some (SB.row 28 1 (n+1) (bI n [SV.ro x392.length 2 (aY plL (0,0) x392)] g))))) (False))) (K (Ex.exit 0) (w7 w most e398 e399 (SV.own 2 0 1 n) (some (SB.row 28 1 n g)))))) (K (Ex.exit 0) (w7 w most all b (SV.own 2 0 1 n) (some (SB.row 28 1 n g))))):=by kernel_rfl
theorem aDA(w:ByteArray)(most:Nat)(all:Int)(b:Bk)(K:KC):aE myE (aB myR 1) M5 myP 1 K (.exit 0) (w7 w most all b .nils none)=
 (K SV.nils [some (SB.cells 130 (bkC all b))] [0]):=by kernel_rfl
theorem aFe(w:ByteArray)(most:Nat)(all:Int)(b:Bk)(n:Nat)(g:Nat->List SV)(K:KC):aE myE (aB myR 1) M5 myP 1 K (.exit 0) (w7 w most all b (.own 2 0 1 n) (some (.row 28 1 n g)))=
 (K (SV.own 1 0 1 n) [some (SB.cells 130 (bkC all b)),some (SB.row 28 1 n g)] [0]):=by kernel_rfl
noncomputable abbrev OG :Func:=Tryz.f37
abbrev xO(w:ByteArray)(most:Nat)(all:Int)(b:Bk)(o:SV)(r:Option SB):St:=myS 38 w most all b o r
theorem TH(w:ByteArray)(most:Nat)(all:Int)(b:Bk)(K:KC):eA myR (fun _=>0) o4 3 37 [.agg [.ptr 0 0],.str w,.int .i64 (most:Nat),.fn (.func 38) [.agg [.ptr 0 0]] []] [some (.cells 130 (bkC all b))] K=
 (∃q_,bO myE (aB myR 1) OG myP 0 1 K q_ (xO w most all b (SV.nils) (none))):=by kernel_rfl
theorem aE3(w:ByteArray)(most:Nat)(all:Int)(b:Bk)(K:Ex->St->Prop):aF myE (aB myR 1) OG myP 0 K (xO w most all b .nils none)=
 (Br (decide (0<(↑most:Int))) (∃(e399:Bk),∃(e398:Int),((bkC all b)=bkC e398 e399/\aK e399)/\(Br (fG e399 w) (∃(e395:Bk),∃(e394:Int),((bkC e398 e399)=bkC e394 e395/\aK e395/\cP e394)/\(∀(x392:Int×Int×Int×Int×Bool),∀(b'391:Bk),∀(_:isF iW e394 e395 x392 b'391),K Ex.normal (xO w most e394 b'391 (SV.own 2 0 5 1) (some (SB.row 57 5 1 fun (i:Nat)=>cut [SV.int .i64 x392.fst,SV.int .i64 x392.snd.fst,SV.int .i64 x392.snd.snd.fst,SV.int .i64 x392.snd.snd.snd.fst,SV.bool x392.snd.snd.snd.snd] (i*5) 5))))) (K (Ex.exit 0) (xO w most e398 e399 (SV.nils) (none))))) (K (Ex.exit 0) (xO w most all b (SV.nils) (none)))):=by kernel_rfl
theorem aD5(w:ByteArray)(most:Nat)(all:Int)(b:Bk)(n:Nat)(g:Nat->List SV)(K:Ex->St->Prop):aF myE (aB myR 1) OG myP 0 K (xO w most all b (.own 2 0 5 n) (some (.row 57 5 n g)))=
 (Br (decide ((↑n:Int)<(↑most:Int))) (∃(e399:Bk),∃(e398:Int),((bkC all b)=bkC e398 e399/\aK e399)/\(Br (fG e399 w) (∃(e395:Bk),∃(e394:Int),((bkC e398 e399)=bkC e394 e395/\aK e395/\cP e394)/\(∀(x392:Int×Int×Int×Int×Bool),∀(b'391:Bk),∀(_:isF iW e394 e395 x392 b'391),Br (decide ((n+1)*40<=1099511627776)&&decide (n+1<9223372036854775808)&&decide (n=n)) (K Ex.normal (xO w most e394 b'391 (SV.own 2 0 5 (n+1)) (some (SB.row 57 5 (n+1) (bI n [SV.int .i64 x392.fst,SV.int .i64 x392.snd.fst,SV.int .i64 x392.snd.snd.fst,SV.int .i64 x392.snd.snd.snd.fst,SV.bool x392.snd.snd.snd.snd] g))))) (False))) (K (Ex.exit 0) (xO w most e398 e399 (SV.own 2 0 5 n) (some (SB.row 57 5 n g)))))) (K (Ex.exit 0) (xO w most all b (SV.own 2 0 5 n) (some (SB.row 57 5 n g))))):=by kernel_rfl
theorem aEi(w:ByteArray)(most:Nat)(all:Int)(b:Bk)(K:KC):aE myE (aB myR 1) OG myP 1 K (.exit 0) (xO w most all b .nils none)=
 (K SV.nils [some (SB.cells 130 (bkC all b))] [0]):=by kernel_rfl
theorem aEv(w:ByteArray)(most:Nat)(all:Int)(b:Bk)(n:Nat)(g:Nat->List SV)(K:KC):aE myE (aB myR 1) OG myP 1 K (.exit 0) (xO w most all b (.own 2 0 5 n) (some (.row 57 5 n g)))=
 (K (SV.own 1 0 5 n) [some (SB.cells 130 (bkC all b)),some (SB.row 57 5 n g)] [0]):=by kernel_rfl
theorem aCa(w:ByteArray)(most:Nat)(all:Int)(b0:Bk)(hb:aK b0)(ha:cP all)(hm:most<=1000)(K:KC)(hK:nC 107 3 kiL (cY w (g7 all) most ([],b0)).1 (.cells 130 (bkC all (cY w (g7 all) most ([],b0)).2)) K):
  eA myR (fun _=>0) o4 3 78 [.agg [.ptr 0 0],.str w,.int .i64 (most:Nat),.fn (.func 79) [.agg [.ptr 0 0]] []] [some (.cells 130 (bkC all b0))] K:=by
 rw [TG]
 refine ⟨most+1, ?_⟩
 show iter (aF myE (aB myR 1) O2 myP 0) (aE myE (aB myR 1) O2 myP 1 K) (most+1) (x5 w most all b0 .nils none)
 refine tX (e:=107) (st:=3) (id:=2) (f:=kiL) (w:=w) (one:=g7 all) (fun o r b=>x5 w most all b o r) most b0 hb (fun b h=>L8 h) (fun L b o r hb' hl ht X hgo hex=> ?_) fun o r ht hb' hl=> ?_
 ·rcases ht with ⟨h0,rfl,rfl⟩|⟨g,hne,rfl,rfl,hg⟩
  ·rw [aEx]
   refine Br.of (fun c=>⟨b,all,⟨rfl,hb'⟩,Br.of (fun c2=>⟨b,all,⟨rfl,hb',ha⟩,fun x b' hx=> ?_⟩) fun c2=>hex fun _=>c2⟩) fun c=>hex fun h=>absurd (of_decide_eq_false c) (by simp only [h0,List.length_nil] at h;omega)
   obtain ⟨rfl,rfl⟩:=mQ hx
   exact hgo (by rw [h0];show 0<most;have:=of_decide_eq_true c;omega) c2 _ _ (by rw [h0];exact eO rfl rfl)
  ·rw [aD2]
   refine Br.of (fun c=>⟨b,all,⟨rfl,hb'⟩,Br.of (fun c2=>⟨b,all,⟨rfl,hb',ha⟩,fun x b' hx=>Br.of (fun _=> ?_) fun c=>absurd c (by simp;omega)⟩) fun c2=>hex fun _=>c2⟩) fun c=>hex fun h=>absurd (of_decide_eq_false c) (by omega)
   obtain ⟨rfl,rfl⟩:=mQ hx
   exact hgo (by have:=of_decide_eq_true c;omega) c2 _ _ (fM rfl rfl hg)
 ·refine oS ht hK (fun h1 h2 hK=> ?_) fun m g h1 h2 hK=> ?_
  ·subst h1;subst h2
   rw [aDT];exact hK
  ·subst h1;subst h2
   rw [aDE];exact hK
theorem aCc(xs:List SV)(σ:List (Option SB)):Sat Tryz.prog 78 xs σ (dMy 79 3 kiL (0,0,false) g7 xs σ):=
 zZ (st:=3) (R:=kiL) (d0:=(0,0,false)) (F:=g7) (fun w m b all hb ha hm=>jW (e:=107) (f:=kiL) (x0 _ _) (fun _=>rfl) fun K hK=>bX (env:=tab.env o4 (fun _=>0) (fun _=>false)) ⟨tab.htt,o4.ok⟩ tab.mixed (fun n=>bC n myR) tab.hft 3 _ _ _ K (aCa w m all b hb ha hm K hK)) xs σ
theorem aBa(w:ByteArray)(most:Nat)(all:Int)(b0:Bk)(hb:aK b0)(ha:cP all)(hm:most<=1000)(K:KC)(hK:nC 24 2 plL (cY w (fL all) most ([],b0)).1 (.cells 130 (bkC all (cY w (fL all) most ([],b0)).2)) K):
  eA myR (fun _=>0) o4 3 33 [.agg [.ptr 0 0],.str w,.int .i64 (most:Nat),.fn (.func 34) [.agg [.ptr 0 0]] []] [some (.cells 130 (bkC all b0))] K:=by
 rw [S5]
 refine ⟨most+1, ?_⟩
 show iter (aF myE (aB myR 1) OL myP 0) (aE myE (aB myR 1) OL myP 1 K) (most+1) (xQ w most all b0 .nils none)
 refine tX (e:=24) (st:=2) (id:=2) (f:=plL) (w:=w) (one:=fL all) (fun o r b=>xQ w most all b o r) most b0 hb (fun b h=>FK h) (fun L b o r hb' hl ht X hgo hex=> ?_) fun o r ht hb' hl=> ?_
 ·rcases ht with ⟨h0,rfl,rfl⟩|⟨g,hne,rfl,rfl,hg⟩
  ·rw [aFA]
   refine Br.of (fun c=>⟨b,all,⟨rfl,hb'⟩,Br.of (fun c2=>⟨b,all,⟨rfl,hb',ha⟩,fun x b' hx=> ?_⟩) fun c2=>hex fun _=>c2⟩) fun c=>hex fun h=>absurd (of_decide_eq_false c) (by simp only [h0,List.length_nil] at h;omega)
   obtain ⟨rfl,rfl⟩:=mQ hx
   exact hgo (by rw [h0];show 0<most;have:=of_decide_eq_true c;omega) c2 _ _ (by rw [h0];exact eO rfl rfl)
  ·rw [aEq]
   refine Br.of (fun c=>⟨b,all,⟨rfl,hb'⟩,Br.of (fun c2=>⟨b,all,⟨rfl,hb',ha⟩,fun x b' hx=>Br.of (fun _=> ?_) fun c=>absurd c (by simp;omega)⟩) fun c2=>hex fun _=>c2⟩) fun c=>hex fun h=>absurd (of_decide_eq_false c) (by omega)
   obtain ⟨rfl,rfl⟩:=mQ hx
   exact hgo (by have:=of_decide_eq_true c;omega) c2 _ _ (fM rfl rfl hg)
 ·refine oS ht hK (fun h1 h2 hK=> ?_) fun m g h1 h2 hK=> ?_
  ·subst h1;subst h2
   rw [aDG];exact hK
  ·subst h1;subst h2
   rw [aFd];exact hK
theorem aCL(xs:List SV)(σ:List (Option SB)):Sat Tryz.prog 33 xs σ (dMy 34 2 plL (0,0) fL xs σ):=
 zZ (st:=2) (R:=plL) (d0:=(0,0)) (F:=fL) (fun w m b all hb ha hm=>jW (e:=24) (f:=plL) (x0 _ _) (fun _=>rfl) fun K hK=>bX (env:=tab.env o4 (fun _=>0) (fun _=>false)) ⟨tab.htt,o4.ok⟩ tab.mixed (fun n=>bC n myR) tab.hft 3 _ _ _ K (aBa w m all b hb ha hm K hK)) xs σ
theorem aBy(w:ByteArray)(most:Nat)(all:Int)(b0:Bk)(hb:aK b0)(ha:cP all)(hm:most<=1000)(K:KC)(hK:nC 28 1 raL (cY w (fI all) most ([],b0)).1 (.cells 130 (bkC all (cY w (fI all) most ([],b0)).2)) K):
  eA myR (fun _=>0) o4 3 35 [.agg [.ptr 0 0],.str w,.int .i64 (most:Nat),.fn (.func 36) [.agg [.ptr 0 0]] []] [some (.cells 130 (bkC all b0))] K:=by
 rw [SA]
 refine ⟨most+1, ?_⟩
 show iter (aF myE (aB myR 1) M5 myP 0) (aE myE (aB myR 1) M5 myP 1 K) (most+1) (w7 w most all b0 .nils none)
 refine tX (e:=28) (st:=1) (id:=2) (f:=raL) (w:=w) (one:=fI all) (fun o r b=>w7 w most all b o r) most b0 hb (fun b h=>CG h) (fun L b o r hb' hl ht X hgo hex=> ?_) fun o r ht hb' hl=> ?_
 ·rcases ht with ⟨h0,rfl,rfl⟩|⟨g,hne,rfl,rfl,hg⟩
  ·rw [aDF]
   refine Br.of (fun c=>⟨b,all,⟨rfl,hb'⟩,Br.of (fun c2=>⟨b,all,⟨rfl,hb',ha⟩,fun x b' hx=> ?_⟩) fun c2=>hex fun _=>c2⟩) fun c=>hex fun h=>absurd (of_decide_eq_false c) (by simp only [h0,List.length_nil] at h;omega)
   obtain ⟨rfl,rfl⟩:=mQ hx
   exact hgo (by rw [h0];show 0<most;have:=of_decide_eq_true c;omega) c2 _ _ (by rw [h0];exact eO rfl rfl)
  ·rw [aDH]
   refine Br.of (fun c=>⟨b,all,⟨rfl,hb'⟩,Br.of (fun c2=>⟨b,all,⟨rfl,hb',ha⟩,fun x b' hx=>Br.of (fun _=> ?_) fun c=>absurd c (by simp;omega)⟩) fun c2=>hex fun _=>c2⟩) fun c=>hex fun h=>absurd (of_decide_eq_false c) (by omega)
   obtain ⟨rfl,rfl⟩:=mQ hx
   exact hgo (by have:=of_decide_eq_true c;omega) c2 _ _ (fM rfl rfl hg)
 ·refine oS ht hK (fun h1 h2 hK=> ?_) fun m g h1 h2 hK=> ?_
  ·subst h1;subst h2
   rw [aDA];exact hK
  ·subst h1;subst h2
   rw [aFe];exact hK
theorem aBu(xs:List SV)(σ:List (Option SB)):Sat Tryz.prog 35 xs σ (dMy 36 1 raL [] fI xs σ):=
 zZ (st:=1) (R:=raL) (d0:=[]) (F:=fI) (fun w m b all hb ha hm=>jW (e:=28) (f:=raL) (x0 _ _) (fun _=>rfl) fun K hK=>bX (env:=tab.env o4 (fun _=>0) (fun _=>false)) ⟨tab.htt,o4.ok⟩ tab.mixed (fun n=>bC n myR) tab.hft 3 _ _ _ K (aBy w m all b hb ha hm K hK)) xs σ
theorem aCo(w:ByteArray)(most:Nat)(all:Int)(b0:Bk)(hb:aK b0)(ha:cP all)(hm:most<=1000)(K:KC)(hK:nC 57 5 gaL (cY w (iW all) most ([],b0)).1 (.cells 130 (bkC all (cY w (iW all) most ([],b0)).2)) K):
  eA myR (fun _=>0) o4 3 37 [.agg [.ptr 0 0],.str w,.int .i64 (most:Nat),.fn (.func 38) [.agg [.ptr 0 0]] []] [some (.cells 130 (bkC all b0))] K:=by
 rw [TH]
 refine ⟨most+1, ?_⟩
 show iter (aF myE (aB myR 1) OG myP 0) (aE myE (aB myR 1) OG myP 1 K) (most+1) (xO w most all b0 .nils none)
 refine tX (e:=57) (st:=5) (id:=2) (f:=gaL) (w:=w) (one:=iW all) (fun o r b=>xO w most all b o r) most b0 hb (fun b h=>KQ h) (fun L b o r hb' hl ht X hgo hex=> ?_) fun o r ht hb' hl=> ?_
 ·rcases ht with ⟨h0,rfl,rfl⟩|⟨g,hne,rfl,rfl,hg⟩
  ·rw [aE3]
   refine Br.of (fun c=>⟨b,all,⟨rfl,hb'⟩,Br.of (fun c2=>⟨b,all,⟨rfl,hb',ha⟩,fun x b' hx=> ?_⟩) fun c2=>hex fun _=>c2⟩) fun c=>hex fun h=>absurd (of_decide_eq_false c) (by simp only [h0,List.length_nil] at h;omega)
   obtain ⟨rfl,rfl⟩:=mQ hx
   exact hgo (by rw [h0];show 0<most;have:=of_decide_eq_true c;omega) c2 _ _ (by rw [h0];exact eO rfl rfl)
  ·rw [aD5]
   refine Br.of (fun c=>⟨b,all,⟨rfl,hb'⟩,Br.of (fun c2=>⟨b,all,⟨rfl,hb',ha⟩,fun x b' hx=>Br.of (fun _=> ?_) fun c=>absurd c (by simp;omega)⟩) fun c2=>hex fun _=>c2⟩) fun c=>hex fun h=>absurd (of_decide_eq_false c) (by omega)
   obtain ⟨rfl,rfl⟩:=mQ hx
   exact hgo (by have:=of_decide_eq_true c;omega) c2 _ _ (fM rfl rfl hg)
 ·refine oS ht hK (fun h1 h2 hK=> ?_) fun m g h1 h2 hK=> ?_
  ·subst h1;subst h2
   rw [aEi];exact hK
  ·subst h1;subst h2
   rw [aEv];exact hK
theorem aBX(xs:List SV)(σ:List (Option SB)):Sat Tryz.prog 37 xs σ (dMy 38 5 gaL (0,0,0,0,false) iW xs σ):=
 zZ (st:=5) (R:=gaL) (d0:=(0,0,0,0,false)) (F:=iW) (fun w m b all hb ha hm=>jW (e:=57) (f:=gaL) (x0 _ _) (fun _=>rfl) fun K hK=>bX (env:=tab.env o4 (fun _=>0) (fun _=>false)) ⟨tab.htt,o4.ok⟩ tab.mixed (fun n=>bC n myR) tab.hft 3 _ _ _ K (aCo w m all b hb ha hm K hK)) xs σ
noncomputable def o5 :bT Tryz.prog:=((((o4).add 78 (dMy 79 3 kiL (0,0,false) g7) aCc).add 33 (dMy 34 2 plL (0,0) fL) aCL).add 35 (dMy 36 1 raL [] fI) aBu).add 37 (dMy 38 5 gaL (0,0,0,0,false) iW) aBX
end Go.Proofs.YtghnfjfkjhbgdaaGreatDoor
namespace Go.Proofs.YtghnfjfkjhbgdaaGreatDoor
open Go.RowKit Go.Extern.Stop Go.Stop Go.Extern Go.Se
theorem aER(t:Value)(w:World):
  Calls Tryz.prog 55 #[.nilIface,t] w fun e w'=>e= .returned (.bool false)/\w'=w:=by
 go_enter Tryz.func55,Tryz.ntmps55
 go_wp2
 go_ret
 exact ⟨rfl,rfl⟩
theorem HK(t:Addr)(w:World):(ReflectliteValue.unpack (.iface 96 (.pointer (some t)))).run Tryz.prog w
  = .ok (.agg #[.pointer (some ⟨6,96,none⟩),.pointer (some ⟨w.heap.size,0,none⟩),.int .u64 150]) (w.alloc (.cells #[.pointer (some t)] 96)):=by kernel_rfl
theorem UC(a:Addr)(w:World):(ReflectliteValue.methodAny (ReflectliteValue.valueError "reflectlite.Value.Type" 0) (fun t _ _ _=>ReflectliteType.toType t) #[.agg #[.pointer (some ⟨6,96,none⟩),.pointer (some a),.int .u64 150]]).run Tryz.prog w
  = .ok (.iface 194 (.agg #[.pointer (some ⟨6,96,none⟩)])) w:=by kernel_rfl
theorem EA(h:Value)(w:World):(Go.method 447 194 (.agg #[h]) "Kind").run Tryz.prog w= .ok (261,h) w:=by kernel_rfl
theorem SK(w:World):((ReflectliteType.abiMethod fun t=>(fun a:Nat=>Value.int IntKind.u8 (a:Int))<$>Rtype.kind t) #[.pointer (some ⟨6,96,none⟩)]).run Tryz.prog w= .ok (.int .u8 22) w:=by kernel_rfl
theorem U4(w:World):((ReflectliteType.abiMethod fun t=>(fun a:Nat=>Value.int IntKind.u8 (a:Int))<$>Rtype.kind t) #[.pointer (some ⟨6,91,none⟩)]).run Tryz.prog w= .ok (.int .u8 22) w:=by kernel_rfl
theorem rlm(z:Sem Value)(f:TypeId->Addr->Nat->Nat->Sem Value)(v:Value):
  ReflectliteValue.method z f #[v]=(do match<- ReflectliteValue.parts v with|none=>z|some (t,a,fl)=>f t a fl (fl%32)):=rfl
theorem C1(a:Addr)(w:World):(ReflectliteValue.parts (.agg #[.pointer (some ⟨6,96,none⟩),.pointer (some a),.int .u64 150])).run Tryz.prog w= .ok (some (96,a,150)) w:=by kernel_rfl
theorem OX(a p:Addr)(W:World)(ha:W.cell? a=some (.pointer (some p))):
  (ReflectliteValue.method (ReflectliteValue.valueError "reflectlite.Value.IsNil" 0) ReflectliteValue.isNil #[.agg #[.pointer (some ⟨6,96,none⟩),.pointer (some a),.int .u64 150]]).run Tryz.prog W= .ok (.bool false) W:=by
 rw [rlm]
 simp only [Sem.run_bind,C1,Result.andThen]
 simp [ReflectliteValue.isNil,loadVar,isAgg,underlying,Tryz.underlying96,ha,Result.andThen]
theorem D8(h:Value)(w:World):(Go.method 447 194 (.agg #[h]) "Elem").run Tryz.prog w= .ok (273,.agg #[h]) w:=by kernel_rfl
theorem tZ(h:Value)(w:World):(Go.method 447 194 (.agg #[h]) "Implements").run Tryz.prog w= .ok (274,.agg #[h]) w:=by kernel_rfl
theorem rG(h:Value)(w:World):(Go.method 447 194 (.agg #[h]) "AssignableTo").run Tryz.prog w= .ok (271,.agg #[h]) w:=by kernel_rfl
theorem UZ(w:World):(ReflectliteType.method ReflectliteType.elem #[.agg #[.pointer (some ⟨6,96,none⟩)]]).run Tryz.prog w= .ok (.iface 194 (.agg #[.pointer (some ⟨6,91,none⟩)])) w:=by kernel_rfl
theorem zL(w:World):(ReflectliteType.relation "Implements" ReflectliteType.implements_ #[.agg #[.pointer (some ⟨6,91,none⟩)],.iface 194 (.agg #[.pointer (some ⟨6,94,none⟩)])]).run Tryz.prog w= .ok (.bool true) w:=by kernel_rfl
theorem KL(v:Value)(w:World):(ReflectliteType.typeOf #[.iface 91 v]).run Tryz.prog w= .ok (.iface 194 (.agg #[.pointer (some ⟨6,91,none⟩)])) w:=by kernel_rfl
theorem zM(w:World):(ReflectliteType.relation "AssignableTo" ReflectliteType.assignableTo #[.agg #[.pointer (some ⟨6,91,none⟩)],.iface 194 (.agg #[.pointer (some ⟨6,91,none⟩)])]).run Tryz.prog w= .ok (.bool true) w:=by kernel_rfl
theorem HM(e:Addr)(w:World):(ReflectliteValue.unpack (.iface 91 (.pointer (some e)))).run Tryz.prog w
  = .ok (.agg #[.pointer (some ⟨6,91,none⟩),.pointer (some ⟨w.heap.size,0,none⟩),.int .u64 150]) (w.alloc (.cells #[.pointer (some e)] 91)):=by kernel_rfl
theorem KG(w:World):(Rtype.elem? 96).run Tryz.prog w= .ok (some 91) w:=by kernel_rfl
theorem aBO(p:Addr)(w:World):(ReflectliteValue.mk 91 p ReflectliteValue.flagAddr).run Tryz.prog w= .ok (.agg #[.pointer (some ⟨6,91,none⟩),.pointer (some p),.int .u64 406]) w:=by kernel_rfl
theorem N7(a p:Addr)(W:World)(ha:W.cell? a=some (.pointer (some p))):
  (ReflectliteValue.method (ReflectliteValue.valueError "reflectlite.Value.Elem" 0) ReflectliteValue.elem #[.agg #[.pointer (some ⟨6,96,none⟩),.pointer (some a),.int .u64 150]]).run Tryz.prog W
   = .ok (.agg #[.pointer (some ⟨6,91,none⟩),.pointer (some p),.int .u64 406]) W:=by
 rw [rlm]
 simp only [Sem.run_bind,C1,Result.andThen]
 simp [ReflectliteValue.elem,loadVar,isAgg,underlying,Tryz.underlying96,ha,Result.andThen,KG,aBO]
theorem rls(v x:Value):ReflectliteValue.set #[v,x]=(do
  let (some (dst,a,fl),some (src,b,_)):=(<- ReflectliteValue.parts v,<- ReflectliteValue.parts x)
   |unsupported (.noEntry "extern/(internal/reflectlite.Value).Set.zeroValue")
  if fl/ReflectliteValue.flagAddr%2==0 then unsupported (.noEntry "extern/(internal/reflectlite.Value).Set.unaddressable")
  let val<- loadVar src b
  if<- Rtype.directlyAssignable dst src then storeVar dst a val
  else if<- Rtype.implements dst src then
   if (<- Rtype.kind src)==20 then
    match val with
    | .nilIface=>unsupported (.noEntry "extern/reflectlite: a nil value of one interface type handed on as a value of another")
    |_=>storeVar dst a val
   else storeVar dst a (.iface src val)
  else panicString ("reflectlite.Set: value of type " ++(<- Rtype.spelt src)++ " is not assignable to type " ++(<- Rtype.spelt dst))
  pure (.tuple #[])):=rfl
theorem JP(a:Addr)(w:World):(ReflectliteValue.parts (.agg #[.pointer (some ⟨6,91,none⟩),.pointer (some a),.int .u64 406])).run Tryz.prog w= .ok (some (91,a,406)) w:=by kernel_rfl
theorem PA(a:Addr)(w:World):(ReflectliteValue.parts (.agg #[.pointer (some ⟨6,91,none⟩),.pointer (some a),.int .u64 150])).run Tryz.prog w= .ok (some (91,a,150)) w:=by kernel_rfl
theorem K0(w:World):(Rtype.directlyAssignable 91 91).run Tryz.prog w= .ok true w:=by kernel_rfl
theorem aAf(ta b e:Addr)(old:Value)(W:World)(hb:W.cell? b=some (.pointer (some e)))(ht:W.cell? ta=some old)(hf:W.frozen? ta=false):
  (ReflectliteValue.set #[.agg #[.pointer (some ⟨6,91,none⟩),.pointer (some ta),.int .u64 406],.agg #[.pointer (some ⟨6,91,none⟩),.pointer (some b),.int .u64 150]]).run Tryz.prog W
   = .ok (.tuple #[]) (W.setCell ta (.pointer (some e))):=by
 rw [rls]
 simp only [Sem.run_bind,JP,PA,Result.andThen]
 simp [ReflectliteValue.flagAddr,loadVar,isAgg,underlying,Tryz.underlying91,hb,Result.andThen,K0,storeVar,Value.cells,storeCells,Addr.add]
 rw [run_store Tryz.prog W ta _ _ (by rfl)]
 simp [ht,hf]
set_option maxRecDepth 1000000 in
set_option maxHeartbeats 4000000 in
theorem aDV(e t:Addr)(old:Value)(w:World)(hg:w.cell? ⟨0,0,none⟩=some (.iface 194 (.agg #[.pointer (some ⟨6,94,none⟩)])))(ht0:w.cell? t=some old)(hf0:w.frozen? t=false):
  Calls Tryz.prog 55 #[.iface 91 (.pointer (some e)),.iface 96 (.pointer (some t))] w fun ev w'=>ev= .returned (.bool true)/\w'=((((w.alloc (.cells #[.pointer (some t)] 96)).alloc (.cells #[.pointer (some ⟨6,96,none⟩),.pointer (some ⟨w.heap.size,0,none⟩),.int .u64 150] 147)).alloc (.cells #[.pointer (some ⟨6,96,none⟩),.pointer (some ⟨w.heap.size,0,none⟩),.int .u64 150] 147)).alloc (.cells #[.pointer (some e)] 91)).setCell t (.pointer (some e)):=by
 have h6:= @run_callFunc_extern Tryz.prog 94 _ (fun args=>ReflectliteValue.unpack (args.getD 0 (.tuple #[]))) Tryz.func94 (by kernel_rfl) (by kernel_rfl) (by kernel_rfl) (by kernel_rfl)
 have h7:= @run_callFunc_extern Tryz.prog 95 _ (ReflectliteValue.methodAny (ReflectliteValue.valueError "reflectlite.Value.Type" 0) (fun t _ _ _=>ReflectliteType.toType t)) Tryz.func95 (by kernel_rfl) (by kernel_rfl) (by kernel_rfl) (by kernel_rfl)
 have h8:= @run_callFunc_extern Tryz.prog 96 _ (ReflectliteValue.method (ReflectliteValue.valueError "reflectlite.Value.IsNil" 0) ReflectliteValue.isNil) Tryz.func96 (by kernel_rfl) (by kernel_rfl) (by kernel_rfl) (by kernel_rfl)
 have h27:= @run_callFunc_extern Tryz.prog 261 _ (ReflectliteType.abiMethod fun t=>do pure (.int .u8 (<- Rtype.kind t))) Tryz.func261 (by kernel_rfl) (by kernel_rfl) (by kernel_rfl) (by kernel_rfl)
 have h37:= @run_callFunc_extern Tryz.prog 273 _ (ReflectliteType.method ReflectliteType.elem) Tryz.func273 (by kernel_rfl) (by kernel_rfl) (by kernel_rfl) (by kernel_rfl)
 have h38:= @run_callFunc_extern Tryz.prog 274 _ (ReflectliteType.relation "Implements" ReflectliteType.implements_) Tryz.func274 (by kernel_rfl) (by kernel_rfl) (by kernel_rfl) (by kernel_rfl)
 have h10:= @run_callFunc_extern Tryz.prog 137 _ ReflectliteType.typeOf Tryz.func137 (by kernel_rfl) (by kernel_rfl) (by kernel_rfl) (by kernel_rfl)
 have h35:= @run_callFunc_extern Tryz.prog 271 _ (ReflectliteType.relation "AssignableTo" ReflectliteType.assignableTo) Tryz.func271 (by kernel_rfl) (by kernel_rfl) (by kernel_rfl) (by kernel_rfl)
 have h11:= @run_callFunc_extern Tryz.prog 138 _ (ReflectliteValue.method (ReflectliteValue.valueError "reflectlite.Value.Elem" 0) ReflectliteValue.elem) Tryz.func138 (by kernel_rfl) (by kernel_rfl) (by kernel_rfl) (by kernel_rfl)
 have h12:= @run_callFunc_extern Tryz.prog 139 _ ReflectliteValue.set Tryz.func139 (by kernel_rfl) (by kernel_rfl) (by kernel_rfl) (by kernel_rfl)
 have tO:=KL
 have mA:=rG
 have a25:=zM
 have v25:=HM
 have f6:=HK
 have f7:=UC
 have mK:=EA
 have mE:=D8
 have mI:=tZ
 have k27:=SK
 have k25:=U4
 have e27:=UZ
 have i25:=zL
 have n8:=OX ⟨w.heap.size,0,none⟩ t ((w.alloc (.cells #[.pointer (some t)] 96)).alloc (.cells #[.pointer (some ⟨6,96,none⟩),.pointer (some ⟨w.heap.size,0,none⟩),.int .u64 150] 147)) (by simp)
 have hlt:0<w.heap.size:=by
  rcases Nat.eq_zero_or_pos w.heap.size with h0|h
  ·simp [World.cell?,h0] at hg
  ·exact h
 have hg2:((w.alloc (.cells #[.pointer (some t)] 96)).alloc (.cells #[.pointer (some ⟨6,96,none⟩),.pointer (some ⟨w.heap.size,0,none⟩),.int .u64 150] 147)).cell? ⟨0,0,none⟩=some (.iface 194 (.agg #[.pointer (some ⟨6,94,none⟩)])):=by
  rw [World.cell?_alloc_lt _ _ ⟨0,0,none⟩ (by simp),World.cell?_alloc_lt _ _ ⟨0,0,none⟩ hlt];exact hg
 have htl:t.block<w.heap.size:=by
  rcases Nat.lt_or_ge t.block w.heap.size with h|h
  ·exact h
  ·simp [World.cell?,Array.getElem?_eq_none h] at ht0
 have el:=N7 ⟨w.heap.size,0,none⟩ t (((w.alloc (.cells #[.pointer (some t)] 96)).alloc (.cells #[.pointer (some ⟨6,96,none⟩),.pointer (some ⟨w.heap.size,0,none⟩),.int .u64 150] 147)).alloc (.cells #[.pointer (some ⟨6,96,none⟩),.pointer (some ⟨w.heap.size,0,none⟩),.int .u64 150] 147)) (by rw [World.cell?_alloc_lt _ _ ⟨w.heap.size,0,none⟩ (by simp;omega)];simp)
 have st:=aAf t ⟨w.heap.size+1+1+1,0,none⟩ e old ((((w.alloc (.cells #[.pointer (some t)] 96)).alloc (.cells #[.pointer (some ⟨6,96,none⟩),.pointer (some ⟨w.heap.size,0,none⟩),.int .u64 150] 147)).alloc (.cells #[.pointer (some ⟨6,96,none⟩),.pointer (some ⟨w.heap.size,0,none⟩),.int .u64 150] 147)).alloc (.cells #[.pointer (some e)] 91))
  (by rw [World.cell?_alloc_at _ _ _ _ (by simp)];rfl)
  (by rw [World.cell?_alloc_lt _ _ t (by simp;omega),World.cell?_alloc_lt _ _ t (by simp;omega),World.cell?_alloc_lt _ _ t (by simp;omega),World.cell?_alloc_lt _ _ t htl];exact ht0)
  (by rw [World.frozen?_alloc_old _ _ t (by simp;omega),World.frozen?_alloc_old _ _ t (by simp;omega),World.frozen?_alloc_old _ _ t (by simp;omega),World.frozen?_alloc_old _ _ t (Nat.ne_of_lt htl)];exact hf0)
 go_enter Tryz.func55,Tryz.ntmps55
 go_wp2
 refine wp_loop_rounds 1 ?_
 rw [rounds_succ]
 go_wp2
 go_ret
 exact ⟨rfl,rfl⟩
open Go.Se
theorem IN{ρ:aG}{T:Nat->Prop}{w:World}{x y:SV}{vals:Array Value}(h:aQ ρ T w [x,y] vals.toList): ∃a b,vals= #[a,b]/\rel ρ T w x a/\rel ρ T w y b:=by
 obtain ⟨a,r,h1,ha,b,r',h2,hb,h3⟩:=h
 have h3':r'=[]:=h3
 subst h3';subst h2
 exact ⟨a,b,by rw [<- Array.toList_inj,h1],ha,hb⟩
theorem XF(sb:SB):aD Tryz.prog 55 [.nilI,.iface 96 (.ptr 0 0)] [some sb] (.bool false) [some sb] []:=by
 intro ρ T w vals h1 h2 h3 h4
 obtain ⟨a,b,rfl,ha,y,rfl,_⟩:=IN h1
 have ha':a= .nilIface:=ha
 subst ha'
 refine .inl ⟨_,Tryz.func55,by kernel_rfl,by kernel_rfl,(aER _ w).mono fun e w' ⟨he,hw⟩=>⟨_,he,ρ,T, ?_⟩⟩
 subst hw
 exact {
  names:=fun _ _ h=>h
  only:=fun p b hp=>(h4 p b hp).1
  len:=Nat.le_refl _
  val:=rfl
  store:=fun p sb hp=>by
   obtain ⟨sb',b,e1,e2,e3,e4⟩:=h2 p (List.getElem?_eq_some_iff.1 hp).1
   rw [hp] at e1
   simp only [Option.some.injEq] at e1
   subst e1
   exact ⟨b,e2,e3,e4⟩
  fresh:=fun p b hp hb=>absurd (h4 p b hb).1 (Nat.not_lt.2 hp)
  inj:=fun p q b hp _ hb _=>absurd (h4 p b hb).1 (Nat.not_lt.2 hp)
  dirty:=fun _ h=>by cases h
  grow:=aX.refl _ _
  tback:=fun _ _ h=>h
  below:=fun p b hp=>(h4 p b hp).2
  tkeep:=fun _ _ h=> .inl h}
theorem LJ :wU Tryz.prog=some (0,.iface 194 (.agg #[.pointer (some ⟨6,94,none⟩)])):=by kernel_rfl
theorem ZB(sb:SB)(et:TypeId)(c:SV):aD Tryz.prog 55 [.iface 91 (.ptr 0 0),.iface 96 (.ptr 1 0)] [some sb,some (.cells et [c])] (.bool true) [some sb,some (.cells et [.ptr 0 0])] [1]:=by
 intro ρ T w vals h1 h2 h3 h4
 obtain ⟨a,b,rfl,⟨y,rfl,b1,r1,rfl⟩,z,rfl,b0,r0,rfl⟩:=IN h1
 obtain ⟨sb0,c0,e1,e2,hT0,hB0⟩:=h2 0 (by simp)
 simp only [List.getElem?_cons_zero,Option.some.injEq] at e1
 subst e1
 rw [r1] at e2;cases e2
 obtain ⟨sb1,c1,e1,e2,hT1,hB1⟩:=h2 1 (by simp)
 simp only [List.getElem?_cons_succ,List.getElem?_cons_zero,Option.some.injEq] at e1
 subst e1
 rw [r0] at e2;cases e2
 obtain ⟨vs,hh,v0,r,hv,_,hr⟩:=hB1
 have hr':r=[]:=hr
 subst hr'
 have hvs:vs= #[v0]:=by apply Array.ext';exact hv
 subst hvs
 have hlt:=(h4 1 b0 r0).2
 have hne:b1≠b0:=fun e=>by have:=h3 0 1 b0 (by rw [r1,e]) r0;cases this
 obtain ⟨_,hg⟩:=h4.inv _ _ LJ
 refine .inl ⟨_,Tryz.func55,by kernel_rfl,by kernel_rfl,(aDV ⟨b1,0,none⟩ ⟨b0,0,none⟩ v0 w hg (by rw [dQ hh];rfl) (GK hh)).mono fun e w' ⟨he,hw⟩=>⟨_,he,ρ,T, ?_⟩⟩
 generalize hW:(((w.alloc _).alloc _).alloc _).alloc _=w4 at hw
 have hG4:aX (fun _=>False) w w4:=by
  subst hW
  exact (((aX.alloc _ w _).trans (aX.alloc _ _ _) fun _ _ h=>h).trans (aX.alloc _ _ _) fun _ _ h=>h).trans (aX.alloc _ _ _) fun _ _ h=>h
 have hh4:w4.heap[b0]? =some (.cells #[v0] et (0,0)):=by rw [hG4.same b0 hlt fun h=>h];exact hh
 rw [y9 hh4] at hw
 have hG5:aX (fun c=>c=b0) w4 w':=by rw [hw];exact aX.put hh4 (by simp) _ rfl
 have hG:aX (fun c=>c=b0) w w':=(hG4.mono fun _ _ h=>h.elim).trans hG5 fun _ _ h=>h
 have hGT:aX T w w':=hG.mono fun c _ hc=>by rw [hc];exact hT1
 exact {
  names:=fun _ _ h=>h
  only:=fun p b hp=>(h4 p b hp).1
  len:=Nat.le_refl _
  val:=rfl
  store:=fun p sb' hp=>by
   match p,hp with
   |0,hp=>
    simp only [List.getElem?_cons_zero,Option.some.injEq] at hp
    subst hp
    exact ⟨b1,r1,hT0,pC (fun _ _ h=>h) (fun _ _ h=>h) hGT (hG.same b1 (h4 0 b1 r1).2 hne) hB0⟩
   |1,hp=>
    simp only [List.getElem?_cons_succ,List.getElem?_cons_zero,Option.some.injEq] at hp
    subst hp
    refine ⟨b0,r0,hT1,_,by rw [hw];exact cV (Array.getElem?_eq_some_iff.1 hh4).1, ?_⟩
    exact ⟨_,[],rfl,⟨b1,r1,rfl⟩,rfl⟩
   |n+2,hp=>simp at hp
  fresh:=fun p b hp hb=>absurd (h4 p b hb).1 (Nat.not_lt.2 hp)
  inj:=fun p q b hp _ hb _=>absurd (h4 p b hb).1 (Nat.not_lt.2 hp)
  dirty:=fun p hp=>by
   obtain rfl:=List.mem_singleton.1 hp
   show 1<2
   omega
  grow:=hG.mono fun c _ hc=>⟨1,by simp,by rw [hc];exact r0⟩
  tback:=fun _ _ h=>h
  below:=fun p b hp=>Nat.lt_of_lt_of_le (h4 p b hp).2 hG.size
  tkeep:=fun _ _ h=> .inl h}
def cAs :List SV->List (Option SB)->KC->Prop
 | [.nilI,.iface 96 (.ptr 0 0)],[some b],K=>K (.bool false) [some b] []
 | [.iface 91 (.ptr 0 0),.iface 96 (.ptr 1 0)],[some b,some (.cells e [_])],K=>K (.bool true) [some b,some (.cells e [.ptr 0 0])] [1]
 |_,_,_=>False
theorem Y7(xs:List SV)(σ:List (Option SB)):Sat Tryz.prog 55 xs σ (cAs xs σ):=by
 intro K hK
 unfold cAs at hK
 split at hK
 ·exact ⟨_,_,_,hK,XF _⟩
 ·exact ⟨_,_,_,hK,ZB _ _ _⟩
 ·exact hK.elim
end Go.Proofs.YtghnfjfkjhbgdaaGreatDoor
namespace Go.Proofs.YtghnfjfkjhbgdaaGreatDoor
open Go.Se
set_option maxRecDepth 100000
noncomputable def t0 :bT Tryz.prog:=(k8).add 55 cAs Y7
noncomputable abbrev jI(env:Env)(W:Nat->St->Option St)(fn:Func)(path:List Nat)(blk:Nat)(inn:List Nat)(K:Ex->St->Prop):Ex->St->Prop:=
 P0 env W blk (pQ (GS fn) (path++[0])) inn (fun e=>wk (W blk) (K e))
end Go.Proofs.YtghnfjfkjhbgdaaGreatDoor
namespace Go.Se
variable {P:Program}
def frz :Nat->List (Option SB)->SV->SV
 |0,_,_=> .junk
 |d+1,σ,v=>match v with
  | .own id 0 st len=>match σ[id]? with
   |some (some (.lst _ cs))=>bif Nat.ble (len*st) cs.length then .ro len st (fun i=>(cut cs (Nat.min i (len - 1)*st) st).map (frz d σ)) else .junk
   |some (some (.row _ st' n g))=>bif Nat.beq st' st&&Nat.ble len n then .ro len st g else .junk
   |_=> .junk
  | .arr id 0 len cap=>match σ[id]? with
   |some (some (.cells _ cs))=>bif Nat.ble len cap then .ro len (cs.length/len) (fun i=>(cut cs (Nat.min i (len - 1)*(cs.length/len)) (cs.length/len)).map (frz d σ)) else .junk
   |_=> .junk
  | .agg cs=> .agg (cs.map (frz d σ))
  | .tup cs=> .tup (cs.map (frz d σ))
  |v=>bif (ids v).isEmpty then v else .junk
section
variable {σ:List (Option SB)} {ρ:aG} {T:Nat->Prop} {w:World} {N:Nat}
theorem PT(hst: ∀p sb,σ[p]? =some (some sb)-> ∃b,ρ p=some b/\eF ρ T w sb b/\N<=b):
  ∀(d:Nat) (v:SV) (x:Value),rel ρ T w v x->rel (fun _=>none) (fun c=>T c/\c<N) w (frz d σ v) x
 |0,_,_,_=>trivial
 |d+1,v,x,h=>by
  have ih:=PT hst d
  have ihL: ∀(l:List SV) (m:List Value),aQ ρ T w l m->aQ (fun _=>none) (fun c=>T c/\c<N) w (l.map (frz d σ)) m:=by
   intro l
   induction l with
   |nil=>exact fun m h=>h
   |cons a l ihl=>
    rintro m ⟨y,r,e,h1,h2⟩
    exact ⟨y,r,e,ih a y h1,ihl r h2⟩
  have aGg: ∀v:SV,rel ρ T w v x->rel (fun _=>none) (fun c=>T c/\c<N) w (bif (ids v).isEmpty then v else .junk) x:=by
   intro v h
   cases hi:(ids v).isEmpty with
   |false=>exact trivial
   |true=>exact fU (fun _ _ h=>h) (fun _ _ h=>h.1) (aX.refl T w) _ _ (CP (ρ2:=fun _=>none) v x (List.isEmpty_iff.1 hi) h)
  have rowAt: ∀{b st i:Nat} {vs:Array Value} {e:TypeId} {f:Nat×Nat} {cs:List SV},w.heap[b]? =some (.cells vs e f)->aQ (fun _=>none) (fun c=>T c/\c<N) w cs ((vs.toList.drop (i*st)).take st)->dS (fun c=>T c/\c<N) w cs b (0+i*st):=by
   intro b st i vs e f cs hb hr
   rw [Nat.zero_add]
   refine dJ hr fun j u hj=> ?_
   rw [dQ hb]
   rw [List.getElem?_take] at hj
   split at hj
   ·rw [List.getElem?_drop] at hj
    simpa using hj
   ·cases hj
  unfold frz
  split
  ·rename_i id st len
   split
   ·rename_i e cs hs
    cases hc:Nat.ble (len*st) cs.length with
    |false=>exact trivial
    |true=>
     have hc:=Nat.le_of_ble_eq_true hc
     obtain ⟨b,r1,⟨vs,r2,m,r,r3,r4⟩,hN⟩:=hst id _ hs
     obtain ⟨b',c,e1,rfl,e3,e4,_⟩:=h
     rw [r1] at e1;cases e1
     refine ⟨some ⟨b,0*st,none⟩,c,rfl,⟨e3,by omega,fun he=>by cases he⟩,fun hl=>⟨b,0,by rw [Nat.zero_mul],(Array.getElem?_eq_some_iff.1 r2).1,fun ht=>Nat.not_lt.2 hN ht.2,fun i hi=> ?_⟩⟩
     have hmin:Nat.min i (len - 1)=i:=Nat.min_eq_left (by omega)
     simp only [hmin]
     refine rowAt r2 (ihL _ _ ?_)
     have hlm:=bJ r4
     have hcut:=gN (i*st) st r4
     have:(vs.toList.drop (i*st)).take st=(m.drop (i*st)).take st:=by
      rw [r3]
      have h1:i*st+st<=len*st:=by
       have:(i+1)*st<=len*st:=Nat.mul_le_mul_right _ hi
       rw [Nat.add_mul,Nat.one_mul] at this;exact this
      rw [List.drop_append_of_le_length (by omega),List.take_append_of_le_length (by rw [List.length_drop];omega)]
     rw [this]
     exact hcut
   ·rename_i e st' n g hs
    cases hc:Nat.beq st' st&&Nat.ble len n with
    |false=>exact trivial
    |true=>
     simp only [Bool.and_eq_true] at hc
     obtain rfl:=Nat.eq_of_beq_eq_true hc.1
     have hc:=Nat.le_of_ble_eq_true hc.2
     obtain ⟨b,r1,⟨vs,r2,r3,r4⟩,hN⟩:=hst id _ hs
     obtain ⟨b',c,e1,rfl,e3,e4,_⟩:=h
     rw [r1] at e1;cases e1
     refine ⟨some ⟨b,0*st',none⟩,c,rfl,⟨e3,by omega,fun he=>by cases he⟩,fun hl=>⟨b,0,by rw [Nat.zero_mul],(Array.getElem?_eq_some_iff.1 r2).1,fun ht=>Nat.not_lt.2 hN ht.2,fun i hi=> ?_⟩⟩
     exact rowAt r2 (aS (T':=fun c=>T c/\c<N) (fun _ _ h=>h) (fun _ _ h=>h.1) (aX.refl T w) _ _ (r4 i (by omega)))
   ·exact trivial
  ·rename_i id len cap
   split
   ·rename_i e cs hs
    cases hc:Nat.ble len cap with
    |false=>exact trivial
    |true=>
     have hc:=Nat.le_of_ble_eq_true hc
     obtain ⟨b,r1,⟨vs,r2,r3⟩,hN⟩:=hst id _ hs
     obtain ⟨⟨b',e1,rfl⟩,e2⟩:=h
     rw [r1] at e1;cases e1
     refine ⟨some ⟨b,0,none⟩,cap,rfl,⟨hc,e2,fun he=>by cases he⟩,fun hl=>⟨b,0,rfl,(Array.getElem?_eq_some_iff.1 r2).1,fun ht=>Nat.not_lt.2 hN ht.2,fun i hi=> ?_⟩⟩
     have hmin:Nat.min i (len - 1)=i:=Nat.min_eq_left (by omega)
     simp only [hmin]
     exact rowAt r2 (ihL _ _ (gN (i*(cs.length/len)) (cs.length/len) r3))
   ·exact trivial
  ·obtain ⟨a,rfl,h1⟩:=h
   exact ⟨a,rfl,ihL _ _ h1⟩
  ·obtain ⟨a,rfl,h1⟩:=h
   exact ⟨a,rfl,ihL _ _ h1⟩
  ·exact aGg _ h
end
theorem DU{k:FuncId}{xs:List SV}{v:SV}{σ':List (Option SB)}(d:Nat)(h:aD P k xs [] v σ' []):aD P k xs [] (frz d σ' v) [] []:=by
 intro ρ T w vals h1 h2 h3 h4
 refine (h ρ T w vals h1 h2 h3 h4).mono fun x w' ⟨ρ',T',hd⟩=> ?_
 have hρ: ∀p,ρ p=none:=fun p=>by
  cases hp:ρ p with
  |none=>rfl
  |some b=>exact absurd (h4 p b hp).1 (Nat.not_lt_zero _)
 have hfr: ∀p b,ρ' p=some b->w.heap.size<=b:=fun p b hp=>by
  rcases hd.fresh p b (Nat.zero_le _) hp with h|⟨q,hq,_⟩
  ·exact h
  ·cases hq
 exact ⟨fun _=>none,fun c=>T' c/\c<w.heap.size,{
  names:=fun p b hp=>by rw [hρ] at hp;cases hp
  only:=fun p b hp=>by cases hp
  len:=Nat.le_refl _
  val:=PT (fun p sb hp=>let ⟨b,e1,_,e3⟩:=hd.store p sb hp;⟨b,e1,e3,hfr p b e1⟩) d v x hd.val
  store:=fun p sb hp=>by simp at hp
  fresh:=fun p b _ hp=>by cases hp
  inj:=fun p q b _ _ hp=>by cases hp
  dirty:=fun p hp=>by cases hp
  grow:=hd.grow
  tback:=fun c hc ht=>hd.tback c hc ht.1
  below:=fun p b hp=>by cases hp
  tkeep:=fun c hc ht=>by
   rcases hd.tkeep c hc ht with h|⟨q,hq,_⟩
   ·exact .inl ⟨h,hc⟩
   ·cases hq}⟩
end Go.Se
namespace Go.Se
def le :Nat->Int->List Int
 |0,_=>[]
 |n+1,x=>x%256::le n (x/256)
section
variable {P:Program}
end
end Go.Se
namespace Go.Se
variable {P:Program}
structure Fz where
 t:Nat
 p:List Nat
 k:Option Nat
 df:List SV
def fzN(df:List SV):Nat->List SV:=fun _=>df
def fzG(n len:Nat)(df:List SV)(g:Nat->List SV):Nat->List SV:=fun i=>bif Nat.blt i n then g i else bif Nat.blt i len then [] else df
def RT(s:dB)(df:List SV):SV->Option (SV×Option Nat)
 | .nils=>some (.ro 0 df.length (fzN df),none)
 | .ro n st g=>some (.ro n st g,none)
 | .own b 0 st' len=>match aI s b with
  |some (.row _ st'' n g)=>bif Nat.beq st'' st' then some (.ro len st' (fzG n len df g),some b) else none
  |_=>none
 |_=>none
def II :List SV->Nat->SV->List SV
 | [],_,_=>[]
 |_::cs,0,v=>v::cs
 |c::cs,k+1,v=>c::II cs k v
def A7(n0:Nat)(s:dB):Option Nat->Option dB
 |none=>some s
 |some b=>bif Nat.ble n0 b then some ((b,none)::s) else none
def fz1(n0:Nat):Fz->St->Option St
 |⟨t,p,ko,df⟩,s=>match ko with
  |none=>match RT s.store df (get s.tmps t) with
   |some (v,d)=>match A7 n0 s.store d with
    |some r=>some ⟨(t,v)::s.tmps,r,s.nxt,s.dirty,s.nt⟩
    |none=>none
   |none=>none
  |some k=>match aBh (GI s.store (get s.tmps t) p) with
   |some i=>match aI s.store i with
    |some (.cells e cs)=>match RT s.store df (nth cs k) with
     |some (v,d)=>match A7 n0 ((i,some (.cells e (II cs k v)))::s.store) d with
      |some r=>some ⟨s.tmps,r,s.nxt,s.dirty,s.nt⟩
      |none=>none
     |none=>none
    |_=>none
   |none=>none
def fzP(n0:Nat):List Fz->St->Option St
 | [],s=>some s
 |f::r,s=>match fz1 n0 f s with
  |some s=>fzP n0 r s
  |none=>none
theorem yU{ρ:aG}{T T2:Nat->Prop}{w:World}(hm: ∀(a:SV) (x:Value),rel ρ T w a x->rel ρ T2 w a x){v:SV}: ∀(cs:List SV) (k:Nat) (l:List Value),aQ ρ T w cs l->(∀x,rel ρ T w (nth cs k) x->rel ρ T2 w v x)->aQ ρ T2 w (II cs k v) l
 | [],_,_,h,_=>h
 |c::cs,0,_,⟨x,r,e,h1,h2⟩,hv=>⟨x,r,e,hv x h1,by
   have: ∀(l:List SV) (m:List Value),aQ ρ T w l m->aQ ρ T2 w l m:=fun l=>by
    induction l with
    |nil=>exact fun _ h=>h
    |cons a l ih=>rintro m ⟨y,s,e,h1,h2⟩;exact ⟨y,s,e,hm a y h1,ih s h2⟩
   exact this _ _ h2⟩
 |c::cs,k+1,_,⟨x,r,e,h1,h2⟩,hv=>⟨x,r,e,hm c x h1,yU hm cs k r h2 hv⟩
theorem tN(i:Nat)(o:Option SB)(s:dB)(id:Nat):aI ((i,o)::s) id=if id=i then o else aI s id:=by
 simp only [aI]
 by_cases h:id=i
 ·subst h;simp
 ·rw [if_neg h,show Nat.beq i id=false by rw [Bool.eq_false_iff];intro e;exact h (Nat.eq_of_beq_eq_true e).symm];rfl
theorem W0 {B:kG P} {tm:Nat->SV} {s:dB} {A:Nat->Prop} {D:List Nat} {nt:Nat} {a:Act} {w:World} {ρ:aG} {T:Nat->Prop} (h:fP B tm (aI s) A D nt a w ρ T)
  {df:List SV} {u v:SV} {d:Option Nat} (hf:RT s df u=some (v,d)) (hd: ∀b,d=some b->B.n<=b):
  ∃T2:Nat->Prop,(∀c,T2 c->T c)/\(∀x,rel ρ T w u x->rel ρ T2 w v x)/\(∀c,T c->T2 c\/ ∃b,d=some b/\ρ b=some c)/\(∀b,d=some b->(aI s b).isSome/\(∃e st n g,aI s b=some (.row e st n g))/\ ∀c,ρ b=some c-> ¬T2 c):=by
 unfold RT at hf
 split at hf
 ·cases hf
  exact ⟨T,fun _ h=>h,fun x hx=>fS hx,fun c hc=> .inl hc,fun b hb=>by cases hb⟩
 ·cases hf
  exact ⟨T,fun _ h=>h,fun x hx=>hx,fun c hc=> .inl hc,fun b hb=>by cases hb⟩
 ·rename_i b st' len
  split at hf
  ·rename_i e st'' n g hl
   cases hb:Nat.beq st'' st' with
   |false=>rw [hb] at hf;cases hf
   |true=>
    rw [hb] at hf
    obtain rfl:=Nat.eq_of_beq_eq_true hb
    cases hf
    obtain ⟨_,bb,r1,r2,vs,r3,r4,r5⟩:=h.store b _ hl
    refine ⟨fun c=>T c/\c≠bb,fun _ h=>h.1,fun x hx=> ?_,fun c hc=> ?_,fun b' hb'=> ?_⟩
    ·obtain ⟨b1,c,e1,rfl,e3,e4,_⟩:=hx
     rw [r1] at e1;cases e1
     refine ⟨some ⟨bb,0*st'',none⟩,c,rfl,⟨e3,by omega,fun he=>by cases he⟩,fun hlen=>⟨bb,0,by rw [Nat.zero_mul],(Array.getElem?_eq_some_iff.1 r3).1,fun ht=>ht.2 rfl,fun i hi=> ?_⟩⟩
     show dS _ w (bif Nat.blt i n then g i else bif Nat.blt i len then [] else df) bb _
     cases hin:Nat.blt i n with
     |false=>
      rw [show Nat.blt i len=true by simpa using hi]
      exact trivial
     |true=>
      have hin:i<n:=by simpa using hin
      have hr:=aS (T':=fun c=>T c/\c≠bb) (fun _ _ h=>h) (fun _ _ h=>h.1) (aX.refl T w) _ _ (r5 i hin)
      rw [Nat.zero_add]
      refine dJ hr fun j u hj=> ?_
      rw [dQ r3]
      rw [List.getElem?_take] at hj
      split at hj
      ·rw [List.getElem?_drop] at hj
       simpa using hj
      ·cases hj
    ·by_cases hc2:c=bb
     ·exact .inr ⟨b,rfl,by rw [hc2];exact r1⟩
     ·exact .inl ⟨hc,hc2⟩
    ·cases hb'
     refine ⟨by rw [hl];rfl,⟨_,_,_,_,hl⟩,fun c hc=> ?_⟩
     rw [r1] at hc;cases hc
     exact fun ht=>ht.2 rfl
  ·cases hf
 ·cases hf
theorem LC {B:kG P} {tm tm2:Nat->SV} {s s2 r:dB} {A:Nat->Prop} {D:List Nat} {nt:Nat} {a:Act} {w:World} {ρ:aG} {T T2:Nat->Prop} (h:fP B tm (aI s) A D nt a w ρ T) {d:Option Nat}
  (hT: ∀c,T2 c->T c) (hback: ∀c,T c->T2 c\/ ∃b,d=some b/\ρ b=some c) (hd: ∀b,d=some b->(aI s b).isSome/\B.n<=b/\ ∀c,ρ b=some c-> ¬T2 c)
  (ht: ∀t,rel ρ T2 w (tm2 t) (a.tmps.getD t undef)) (hs: ∀id sb,aI s2 id=some sb->(aI s id).isSome/\ ∀c,ρ id=some c->eF ρ T2 w sb c) (hn: ∀id,aI s id=none->aI s2 id=none)
  (hr:A7 B.n s2 d=some r):fP B tm2 (aI r) A D nt a w ρ T2:=by
 have hlook: ∀id,aI r id=aI s2 id\/(d=some id/\aI r id=none):=fun id=>by
  unfold A7 at hr
  split at hr
  ·cases hr;exact .inl rfl
  ·rename_i b
   cases hc:Nat.ble B.n b with
   |false=>rw [hc] at hr;cases hr
   |true=>
    rw [hc] at hr
    cases hr
    rw [tN]
    by_cases hid:id=b
    ·exact .inr ⟨by rw [hid],if_pos hid⟩
    ·exact .inl (if_neg hid)
 have hnone: ∀id,aI s id=none->aI r id=none:=fun id hid=>by
  rcases hlook id with h1|h1
  ·rw [h1];exact hn id hid
  ·exact h1.2
 have hsome: ∀id,(aI r id).isSome->(aI s id).isSome/\d≠some id:=fun id hid=>by
  obtain ⟨sb,hsb⟩:=Option.isSome_iff_exists.1 hid
  rcases hlook id with h1|h1
  ·refine ⟨(hs id sb (by rw [<- h1];exact hsb)).1,fun hd2=> ?_⟩
   subst hd2
   unfold A7 at hr
   simp only at hr
   cases hc:Nat.ble B.n id with
   |false=>rw [hc] at hr;cases hr
   |true=>
    rw [hc] at hr
    cases hr
    rw [tN,if_pos rfl] at hsb;cases hsb
  ·rw [h1.2] at hsb;cases hsb
 exact {
  defers:=h.defers.grow (fun c _ h=>hT c h) (aX.refl T w)
  size:=h.size
  tmps:=ht
  store:=fun id sb hid=>by
   obtain ⟨k1,k2⟩:=hsome id (by rw [hid];rfl)
   have hid2:aI s2 id=some sb:=by
    rcases hlook id with h1|h1
    ·rw [<- h1];exact hid
    ·rw [h1.2] at hid;cases hid
   obtain ⟨sb0,hsb0⟩:=Option.isSome_iff_exists.1 k1
   obtain ⟨hA,c,e1,e2,_⟩:=h.store id sb0 hsb0
   refine ⟨hA,c,e1, ?_,(hs id sb hid2).2 c e1⟩
   rcases hback c e2 with h3|⟨b,h3,h4⟩
   ·exact h3
   ·have:=h.inj id b c k1 (hd b h3).1 e1 h4
    subst this
    exact absurd h3 k2
  names:=h.names
  inj:=fun i j c hi hj=>h.inj i j c (hsome i hi).1 (hsome j hj).1
  base:=h.base
  full:=h.full
  grow:=h.grow
  old:=h.old
  tback:=fun c hc ht=>h.tback c hc (hT c ht)
  tkeep:=fun c hc hbt=>by
   rcases h.tkeep c hc hbt with h1|⟨q,q1,q2,q3,q4⟩
   ·rcases hback c h1 with h2|⟨b,h2,h3⟩
    ·exact .inl h2
    ·obtain ⟨k1,k2,_⟩:=hd b h2
     rcases h.fresh b c k1 k2 h3 with h4|⟨q,q1,q2,q3,q4⟩
     ·omega
     ·exact .inr ⟨q,q1,q2,hnone q q3,q4⟩
   ·exact .inr ⟨q,q1,q2,hnone q q3,q4⟩
  fresh:=fun id c h1 h2 h3=>(h.fresh id c (hsome id h1).1 h2 h3).imp (fun x=>x) fun ⟨q,q1,q2,q3,q4⟩=>⟨q,q1,q2,hnone q q3,q4⟩
  inv:=fun g v hg=>⟨fun ht=>(h.inv g v hg).1 (hT _ ht),(h.inv g v hg).2⟩}
theorem vH{n0:Nat}{s r:dB}{d:Option Nat}(h:A7 n0 s d=some r): ∀b,d=some b->n0<=b:=fun b hb=>by
 subst hb
 unfold A7 at h
 simp only at h
 cases hc:Nat.ble n0 b with
 |false=>rw [hc] at h;cases h
 |true=>exact Nat.le_of_ble_eq_true hc
theorem XC{n0:Nat}{f:Fz}{s s':St}(h:fz1 n0 f s=some s'):D0 P n0 s s':=by
 rintro B act w rfl ⟨h1,ρ,T,hh⟩
 obtain ⟨ft,fp,fk,fdf⟩:=f
 simp only [fz1] at h
 split at h
 ·split at h
  ·rename_i v d hv
   split at h
   ·rename_i r hr
    cases h
    obtain ⟨T2,k1,k2,k3,k4⟩:=W0 hh hv (vH hr)
    have hmono: ∀(x:SV) (y:Value),rel ρ T w x y->rel ρ T2 w x y:=fU (fun _ _ h=>h) (fun c _ h=>k1 c h) (aX.refl T w)
    refine ⟨h1,ρ,T2,LC (s2:=s.store) hh k1 k3 (fun b hb=>⟨(k4 b hb).1,vH hr b hb,(k4 b hb).2.2⟩) (fun t=> ?_) (fun id sb hid=> ?_) (fun _ h=>h) hr⟩
    ·simp only [get]
     cases hb:Nat.beq ft t with
     |true=>
      obtain rfl:=Nat.eq_of_beq_eq_true hb
      exact k2 _ (hh.tmps _)
     |false=>exact hmono _ _ (hh.tmps t)
    ·refine ⟨by rw [hid];rfl,fun c hc=> ?_⟩
     obtain ⟨_,c',e1,_,e3⟩:=hh.store id sb hid
     rw [hc] at e1;cases e1
     exact pC (fun _ _ h=>h) (fun c _ h=>k1 c h) (aX.refl T w) rfl e3
   ·cases h
  ·cases h
 ·rename_i k
  split at h
  ·rename_i i hi
   split at h
   ·rename_i e cs hl
    split at h
    ·rename_i v d hv
     split at h
     ·rename_i r hr
      cases h
      obtain ⟨T2,k1,k2,k3,k4⟩:=W0 hh hv (vH hr)
      have hmono: ∀(x:SV) (y:Value),rel ρ T w x y->rel ρ T2 w x y:=fU (fun _ _ h=>h) (fun c _ h=>k1 c h) (aX.refl T w)
      refine ⟨h1,ρ,T2,LC (s2:=(i,some (.cells e (II cs k v)))::s.store) hh k1 k3 (fun b hb=>⟨(k4 b hb).1,vH hr b hb,(k4 b hb).2.2⟩) (fun t=>hmono _ _ (hh.tmps t)) (fun id sb hid=> ?_) (fun id hid=> ?_) hr⟩
      ·rw [tN] at hid
       by_cases hii:id=i
       ·rw [if_pos hii] at hid
        cases hid
        subst hii
        refine ⟨by rw [hl];rfl,fun c hc=> ?_⟩
        obtain ⟨_,c',e1,_,vs,e3,e4⟩:=hh.store id _ hl
        rw [hc] at e1;cases e1
        exact ⟨vs,e3,yU hmono cs k _ e4 k2⟩
       ·rw [if_neg hii] at hid
        refine ⟨by rw [hid];rfl,fun c hc=> ?_⟩
        obtain ⟨_,c',e1,_,e3⟩:=hh.store id sb hid
        rw [hc] at e1;cases e1
        exact pC (fun _ _ h=>h) (fun c _ h=>k1 c h) (aX.refl T w) rfl e3
      ·rw [tN]
       by_cases hii:id=i
       ·rw [hii,hl] at hid;cases hid
       ·rw [if_neg hii];exact hid
     ·cases h
    ·cases h
   ·cases h
  ·cases h
theorem IV{n0:Nat}: ∀(l:List Fz) {s s':St},fzP n0 l s=some s'->D0 P n0 s s'
 | [],s,s',h=>by cases h;exact fun _ _ _ _ h=>h
 |f::r,s,s',h=>by
  simp only [fzP] at h
  split at h
  ·rename_i s1 hs1
   exact fun B a w hB hn=>IV r h B a w hB (XC hs1 B a w hB hn)
  ·cases h
structure JT where
 k:eR
 m:List ((Nat×List Nat)×Nat):=[]
 f:List Fz:=[]
def dP(R:List (Nat×JT))(n0 blk:Nat)(s:St):Option St:=
 match R with
 | []=>some s
 |(b,k)::r=>bif Nat.beq b blk then (match yY n0 k.k.mv s with
   |some s=>match vB n0 k.m s with
    |some s=>match fzP n0 k.f s with
     |some s=>sD n0 k.k s
     |none=>none
    |none=>none
   |none=>none) else dP r n0 blk s
theorem wQ(n0:Nat): ∀R:List (Nat×JT),sS P n0 (dP R n0)
 | [],blk,s,s',h=>by cases h;exact fun _ _ _ _ h=>h
 |(b,k)::r,blk,s,s',h=>by
  simp only [dP] at h
  cases hb:Nat.beq b blk with
  |true=>
   rw [hb] at h
   simp only [cond_true] at h
   split at h
   ·rename_i s1 hs1
    split at h
    ·rename_i s2 hs2
     split at h
     ·rename_i s3 hs3
      exact fun B a w hB hn=>oD h B a w hB (IV _ hs3 B a w hB (lH _ hs2 B a w hB (kM _ hs1 B a w hB hn)))
     ·cases h
    ·cases h
   ·cases h
  |false=>rw [hb] at h;exact wQ n0 r blk s s' h
end Go.Se
namespace Go.Se
variable {P:Program}
theorem C8 {k:FuncId} {xs:List SV} {sb:SB} {T0:TypeId} {cs:List SV} {v:SV} {σ':List (Option SB)} {d:List Nat} (n:Nat) (hcs:ids.idsL cs=[]) (hσ: ∀p:Nat,σ'[p]? ≠some none)
  (h:aD P k xs [some sb] v (some (.cells T0 cs)::σ') d):aD P k xs [some sb] (frz n (none::σ') v) [some (.cells T0 cs)] d:=by
 intro ρ T w vals h1 h2 h3 h4
 refine (h ρ T w vals h1 h2 h3 h4).mono fun y w' ⟨ρ',T',hd⟩=> ?_
 obtain ⟨_,b0,_,z1,z2,z3⟩:=h2 0 (by simp)
 have hb0:=(h4.low 0 b0 z1).2
 have z4:=hd.names 0 b0 z1
 have hdead: ∀q:Nat,¬(some (SB.cells T0 cs)::σ')[q]? =some none:=fun q hq=>by
  match q,hq with
  |0,hq=>cases hq
  |q+1,hq=>exact hσ q (by simpa using hq)
 have hst: ∀p s,(none::σ':List (Option SB))[p]? =some (some s)-> ∃b,ρ' p=some b/\eF ρ' T' w' s b/\w.heap.size<=b:=fun p s hp=>by
  match p,hp with
  |0,hp=>cases hp
  |p+1,hp=>
   obtain ⟨b,e1,_,e3⟩:=hd.store (p+1) s (by simpa using hp)
   refine ⟨b,e1,e3, ?_⟩
   rcases hd.fresh (p+1) b (by simp) e1 with h|⟨q,_,hq,_⟩
   ·exact h
   ·exact absurd hq (hdead q)
 refine ⟨fun p=>if p=0 then ρ' 0 else none,fun c=>T' c/\c<w.heap.size,{
  names:=fun p c hp=>by
   have:=(h4.low p c hp).1
   have hp0:p=0:=by simp at this;exact this
   subst hp0
   rw [if_pos rfl];exact hd.names 0 c hp
  only:=fun p c hp=>by
   by_cases hp0:p=0
   ·subst hp0;simp
   ·rw [if_neg hp0] at hp;cases hp
  len:=by simp
  val:=fU (fun _ _ h=>by cases h) (fun _ _ h=>h) (aX.refl _ _) _ _ (PT hst n v y hd.val)
  store:=fun p s hp=>by
   match p,hp with
   |0,hp=>
    cases hp
    obtain ⟨b1,e1,e2,e3⟩:=hd.store 0 _ rfl
    rw [z4] at e1;cases e1
    refine ⟨b0,by rw [if_pos rfl];exact z4,⟨e2,hb0⟩, ?_⟩
    obtain ⟨vs0,f1,f2⟩:=e3
    exact ⟨vs0,f1,aS (ρ:=fun _=>none) (ρ':=fun p=>if p=0 then ρ' 0 else none) (T:=T') (fun _ _ h=>by cases h) (fun _ _ h=>h.1) (aX.refl T' w') _ _ (eP _ _ hcs f2)⟩
  fresh:=fun p c hp hb=>by
   rw [if_neg (by simp at hp;omega)] at hb;cases hb
  inj:=fun p q c hp _ hb=>by
   rw [if_neg (by simp at hp;omega)] at hb;cases hb
  dirty:=hd.dirty
  grow:=hd.grow
  tback:=fun c hc ht=>hd.tback c hc ht.1
  below:=fun p c hp=>by
   by_cases hp0:p=0
   ·subst hp0;rw [if_pos rfl] at hp;exact hd.below 0 c hp
   ·rw [if_neg hp0] at hp;cases hp
  tkeep:=fun c hc ht=>by
   rcases hd.tkeep c hc ht with h|⟨q,_,hq,_⟩
   ·exact .inl ⟨h,hc⟩
   ·exact absurd hq (hdead q)}⟩
theorem aAd{α:Type}{f:α->List SV}{d:α}{L:List α}{g:Nat->List SV}(hg: ∀j (h:j<L.length),g j=f L[j]):fzG L.length L.length (f d) g=aY f d L:=by
 funext i
 unfold fzG
 by_cases h:i<L.length
 ·rw [show Nat.blt i L.length=true by simpa using h,cond_true,hg i h,dM h]
 ·rw [show Nat.blt i L.length=false by rw [Bool.eq_false_iff];intro e;exact h (by simpa using e),cond_false,cond_false]
  unfold aY
  rw [List.getD_eq_getElem?_getD,List.getElem?_eq_none (by omega)];rfl
end Go.Se
namespace Go.Proofs.YtghnfjfkjhbgdaaGreatDoor
open Go.Se
set_option maxRecDepth 100000
noncomputable abbrev aF5(R:List (Nat×JT))(u:Nat->Nat)(B:bT Tryz.prog)(n:Nat)(k:FuncId)(xs:List SV)(σ:List (Option SB))(K:KC):Prop:=
 calls (tab.env B u (fun _=>false)) (dP R) B.dom n k xs σ K
noncomputable abbrev aGv(R:List (Nat×JT))(u:Nat->Nat)(B:bT Tryz.prog)(n:Nat):Env:=
 {tab.env B u (fun _=>false) with callee:=calls (tab.env B u (fun _=>false)) (dP R) B.dom n,round:=fun xs σ K=>calls.roundsN (tab.env B u (fun _=>false)) (dP R) B.dom n xs σ K}
def gdD :List Nat:=[0,1,2,3,4,5,6,7,8,9,10,11,12,13,14,15,16,17,18,19,20,21,22,23,24]
def ugR :List (Nat×JT):=[(0,⟨⟨[1,2,3,46,47],[0,1,2,3,4],gdD,5,[]⟩,[((3,[6]),4)],[]⟩),(2,⟨⟨[1,2,3,62,63],[0,1,2,3,4],gdD,5,[]⟩,[((3,[7]),4)],[⟨3,[],some 6,[.int .i64 0]⟩]⟩),(4,⟨⟨[1,2,3,62,63,68,69,70],[0,1,2,3,4],gdD,5,[]⟩,[((3,[7]),4)],[]⟩)]
noncomputable abbrev ugE :Env:=aGv ugR (fun _=>0) o5 3
noncomputable abbrev ugF :Func:=Tryz.f32
abbrev J1 :List Nat:=[1,1,1,1,1,1,1,0,1,0]
abbrev lQ :List Nat:=[1,1,1,1,1,1,1,1,0,1,0]
abbrev wE :List Nat:=[1,1,0,0,1,0]
def ugC(a1 a2 a3 a4 x y:Int)(h g k:SV):List SV:=[.int .i64 a1,.int .i64 a2,.int .i64 a3,.int .i64 a4,.int .i64 x,.int .i64 y,h,g,k,.nils,.nils,.nils,.int .i64 0,.int .i64 0,.int .u32 0,.int .i64 0]
def ugS(ts:List (Nat×SV))(C:List SV)(all:Int)(b:Bk)(r:Option SB):St:=⟨(1,.ptr 1 0)::(2,.ptr 2 0)::(3,.ptr 3 0)::ts,[(0,some (.cells 130 (bkC all b))),(1,some (.cells 71 [.ptr 0 0])),(2,some (.cells 34 (ugC 0 0 0 0 0 0 .nils .nils .nils))),(3,some (.cells 34 C)),(4,r)],5,gdD,91⟩
theorem aAs(b:Bk)(all:Int)(K:KC):aF5 ugR (fun _=>0) o5 4 32 [.agg [.ptr 0 0]] [some (.cells 130 (bkC all b))] K=
 (∃(e400:Bk),∃(e399:Int),∃(e398:Nat),(((bkC all b)=bkC e399 e400/\1=(↑e398:Int))/\aK e400/\cP e399/\0<e398/\e398<=1000)/\(∀(p396:List (List Int)),∀(b'395:Bk),∀(_:uP e399 e400 (⟨#[114,97,116,101]⟩:ByteArray) e398 p396 b'395),Br (true&&decide (0<(↑e398:Int))) (∃(e392:Bk),∃(e391:Int),((bkC e399 b'395)=bkC e391 e392)/\(∀(v389:Int),∀(b'388:Bk),∀(_:MB e392 (bytesOf (p396.getD (Int.toNat 0) [])) 60 1024 v389 b'388),∃(e386:Bk),∃(e385:Int),∃(e384:Nat),(((bkC e391 b'388)=bkC e385 e386/\1=(↑e384:Int))/\aK e386/\cP e385/\0<e384/\e384<=1000)/\(∀(p382:List (List Int)),∀(b'381:Bk),∀(_:uP e385 e386 (⟨#[99,101,108,108]⟩:ByteArray) e384 p382 b'381),Br (true&&decide (0<(↑e384:Int))) (∃(e378:Bk),∃(e377:Int),((bkC e385 b'381)=bkC e377 e378)/\(∀(v375:Int),∀(b'374:Bk),∀(_:PV e378 (bytesOf (p382.getD (Int.toNat 0) [])) v375 b'374),∃(e372:Bk),∃(e371:Int),∃(e370:Nat),(((bkC e377 b'374)=bkC e371 e372/\2=(↑e370:Int))/\aK e372/\cP e371/\0<e370/\e370<=1000)/\(∀(p368:List (List Int)),∀(b'367:Bk),∀(_:uP e371 e372 (⟨#[115,105,122,101]⟩:ByteArray) e370 p368 b'367),Br (true&&decide (0<(↑e370:Int))) (∃(e364:Bk),∃(e363:Int),((bkC e371 b'367)=bkC e363 e364)/\(∀(v361:Int),∀(b'360:Bk),∀(_:MB e364 (bytesOf (p368.getD (Int.toNat 0) [])) 1 64 v361 b'360),Br (true&&decide (1<(↑e370:Int))) (∃(e357:Bk),∃(e356:Int),((bkC e363 b'360)=bkC e356 e357)/\(∀(v354:Int),∀(b'353:Bk),∀(_:MB e357 (bytesOf (p368.getD (Int.toNat 1) [])) 1 64 v354 b'353),∃(e351:Bk),∃(e350:Int),∃(e349:Nat),(((bkC e356 b'353)=bkC e350 e351/\2=(↑e349:Int))/\aK e351/\cP e350/\0<e349/\e349<=1000)/\(∀(p347:List (List Int)),∀(b'346:Bk),∀(_:uP e350 e351 (⟨#[99,111,114,110,101,114]⟩:ByteArray) e349 p347 b'346),∃(e344:List (List Int)),∃(e343:Bk),∃(e342:Int),((bkC e350 b'346)=bkC e342 e343/\aH p347=aH e344/\2<=e349)/\(∀(x340:Int),∀(y339:Int),∀(b'338:Bk),∀(_:JA e343 e344 x340 y339 b'338),∃q_,bO ugE (dP ugR 1) ugF J1 0 1 K q_ (ugS [(46,SV.int .i64 (IntKind.i64.wrap (v354+1))),(47,SV.int .i64 0)] (ugC v389 v375 v361 v354 x340 y339 (SV.nils) (SV.nils) SV.nils) e342 b'338 (none)))))) (False))) (False)))) (False)))) (False))):=by kernel_rfl
theorem aFl(a1 a2 a3 a4 x y n:Int)(all:Int)(b:Bk)(i:Nat)(K:Ex->St->Prop):aF ugE (dP ugR 1) ugF J1 0 K (ugS [(46,.int .i64 n),(47,.int .i64 i)] (ugC a1 a2 a3 a4 x y .nils .nils .nils) all b none)=
 (Br (decide ((↑i:Int)<n)) (∃(e399:Bk),∃(e398:Int),∃(e397:Nat),(((bkC all b)=bkC e398 e399/\IntKind.i64.wrap (a3+1)=(↑e397:Int))/\aK e399/\cP e398/\0<e397/\e397<=1000)/\(∀(p395:List (List Int)),∀(b'394:Bk),∀(_:uP e398 e399 (⟨#[104,101,105,103,104,116,115]⟩:ByteArray) e397 p395 b'394),∃(e392:List (List Int)),∃(e391:Bk),∃(e390:Int),(((bkC e398 b'394)=bkC e390 e391/\e397=e392.length/\aH p395=aH e392)/\e392.length<=1000)/\(∀(L388:List Int),∀(b'387:Bk),∀(_:aFa e391 e392 L388 b'387),(∀(i:Nat),i<e397->(aY eK 0 L388 i).length=1/\(aY eK 0 L388 i).all aW=true)/\(Br (true&&(decide (e397*8<=1099511627776)&&decide (e397<9223372036854775808))) (Br (decide (0<e397)) (K Ex.normal (ugS [(46,SV.int .i64 n),(47,SV.int .i64 (IntKind.i64.wrap ((↑i:Int)+1)))] (ugC a1 a2 a3 a4 x y (SV.own 4 0 1 e397) (SV.nils) SV.nils) e390 b'387 (some (SB.row 22 1 e397 (aY eK 0 L388))))) (K Ex.normal (ugS [(46,SV.int .i64 n),(47,SV.int .i64 (IntKind.i64.wrap ((↑i:Int)+1)))] (ugC a1 a2 a3 a4 x y (SV.nils) (SV.nils) SV.nils) e390 b'387 (none)))) (False))))) (K (Ex.exit 0) (ugS [(46,SV.int .i64 n),(47,SV.int .i64 (↑i:Int))] (ugC a1 a2 a3 a4 x y (SV.nils) (SV.nils) SV.nils) all b (none)))):=by kernel_rfl
theorem Y0(a1 a2 a3 a4 x y n:Int)(all:Int)(b:Bk)(i m:Nat)(g:Nat->List SV)(K:Ex->St->Prop):aF ugE (dP ugR 1) ugF J1 0 K (ugS [(46,.int .i64 n),(47,.int .i64 i)] (ugC a1 a2 a3 a4 x y (.own 4 0 1 m) .nils .nils) all b (some (.row 22 1 m g)))=
 (Br (decide ((↑i:Int)<n)) (∃(e399:Bk),∃(e398:Int),∃(e397:Nat),(((bkC all b)=bkC e398 e399/\IntKind.i64.wrap (a3+1)=(↑e397:Int))/\aK e399/\cP e398/\0<e397/\e397<=1000)/\(∀(p395:List (List Int)),∀(b'394:Bk),∀(_:uP e398 e399 (⟨#[104,101,105,103,104,116,115]⟩:ByteArray) e397 p395 b'394),∃(e392:List (List Int)),∃(e391:Bk),∃(e390:Int),(((bkC e398 b'394)=bkC e390 e391/\e397=e392.length/\aH p395=aH e392)/\e392.length<=1000)/\(∀(L388:List Int),∀(b'387:Bk),∀(_:aFa e391 e392 L388 b'387),(∀(i:Nat),i<e397->(aY eK 0 L388 i).length=1/\(aY eK 0 L388 i).all aW=true)/\(Br (true&&decide (m=m)&&(decide ((m+e397)*8<=1099511627776)&&decide (m+e397<9223372036854775808))) (K Ex.normal (ugS [(46,SV.int .i64 n),(47,SV.int .i64 (IntKind.i64.wrap ((↑i:Int)+1)))] (ugC a1 a2 a3 a4 x y (SV.own 4 0 1 (m+e397)) (SV.nils) SV.nils) e390 b'387 (some (SB.row 22 1 (m+e397) (nZ m g (aY eK 0 L388)))))) (False))))) (K (Ex.exit 0) (ugS [(46,SV.int .i64 n),(47,SV.int .i64 (↑i:Int))] (ugC a1 a2 a3 a4 x y (SV.own 4 0 1 m) (SV.nils) SV.nils) all b (some (SB.row 22 1 m g))))):=by kernel_rfl
theorem aDw(a1 a2 a3 a4 x y n:Int)(all:Int)(b:Bk)(i m:Nat)(g:Nat->List SV)(K:KC):aE ugE (dP ugR 1) ugF J1 1 K (.exit 0) (ugS [(46,.int .i64 n),(47,.int .i64 i)] (ugC a1 a2 a3 a4 x y (.own 4 0 1 m) .nils .nils) all b (some (.row 22 1 m g)))=
 (∃q_,bO ugE (dP ugR 1) ugF lQ 2 1 K q_ (ugS [(62,SV.int .i64 a4),(63,SV.int .i64 0)] (ugC a1 a2 a3 a4 x y (SV.ro m 1 (fzG m m [SV.int .i64 0] g)) (SV.nils) SV.nils) all b (none))):=by kernel_rfl
theorem XY(a1 a2 a3 a4 x y n:Int)(nh:Nat)(h:Nat->List SV)(all:Int)(b:Bk)(i:Nat)(K:Ex->St->Prop):aF ugE (dP ugR 1) ugF lQ 2 K (ugS [(62,.int .i64 n),(63,.int .i64 i)] (ugC a1 a2 a3 a4 x y (.ro nh 1 h) .nils .nils) all b none)=
 (Br (decide ((↑i:Int)<n)) (∃(e399:Bk),∃(e398:Int),∃(e397:Nat),(((bkC all b)=bkC e398 e399/\a3=(↑e397:Int))/\aK e399/\cP e398/\0<e397/\e397<=1000)/\(∀(p395:List (List Int)),∀(b'394:Bk),∀(_:uP e398 e399 (⟨#[103,114,111,117,110,100]⟩:ByteArray) e397 p395 b'394),∃q_,iter (aF ugE (dP ugR 1) ugF (lQ++[0]++wE) 4) (jI ugE (dP ugR 1) ugF lQ 2 wE K) q_ (ugS [(62,SV.int .i64 n),(63,SV.int .i64 (↑i:Int)),(68,SV.ro e397 1 (aH p395)),(69,SV.int .i64 (↑e397:Int)),(70,SV.int .i64 0)] (ugC a1 a2 a3 a4 x y (SV.ro nh 1 h) (SV.nils) SV.nils) e398 b'394 (none)))) (K (Ex.exit 2) (ugS [(62,SV.int .i64 n),(63,SV.int .i64 (↑i:Int))] (ugC a1 a2 a3 a4 x y (SV.ro nh 1 h) (SV.nils) SV.nils) all b (none)))):=by kernel_rfl
theorem XT(a1 a2 a3 a4 x y n:Int)(nh:Nat)(h:Nat->List SV)(all:Int)(b:Bk)(i m:Nat)(g:Nat->List SV)(K:Ex->St->Prop):aF ugE (dP ugR 1) ugF lQ 2 K (ugS [(62,.int .i64 n),(63,.int .i64 i)] (ugC a1 a2 a3 a4 x y (.ro nh 1 h) (.own 4 0 1 m) .nils) all b (some (.row 3 1 m g)))=
 (Br (decide ((↑i:Int)<n)) (∃(e399:Bk),∃(e398:Int),∃(e397:Nat),(((bkC all b)=bkC e398 e399/\a3=(↑e397:Int))/\aK e399/\cP e398/\0<e397/\e397<=1000)/\(∀(p395:List (List Int)),∀(b'394:Bk),∀(_:uP e398 e399 (⟨#[103,114,111,117,110,100]⟩:ByteArray) e397 p395 b'394),∃q_,iter (aF ugE (dP ugR 1) ugF (lQ++[0]++wE) 4) (jI ugE (dP ugR 1) ugF lQ 2 wE K) q_ (ugS [(62,SV.int .i64 n),(63,SV.int .i64 (↑i:Int)),(68,SV.ro e397 1 (aH p395)),(69,SV.int .i64 (↑e397:Int)),(70,SV.int .i64 0)] (ugC a1 a2 a3 a4 x y (SV.ro nh 1 h) (SV.own 4 0 1 m) SV.nils) e398 b'394 (some (SB.row 3 1 m g))))) (K (Ex.exit 2) (ugS [(62,SV.int .i64 n),(63,SV.int .i64 (↑i:Int))] (ugC a1 a2 a3 a4 x y (SV.ro nh 1 h) (SV.own 4 0 1 m) SV.nils) all b (some (SB.row 3 1 m g))))):=by kernel_rfl
abbrev ugT(n:Int)(i:Nat)(l:Nat)(p:List (List Int))(k:Nat):List (Nat×SV):=[(62,.int .i64 n),(63,.int .i64 i),(68,.ro l 1 (aH p)),(69,.int .i64 l),(70,.int .i64 k)]
theorem aD9(a1 a2 a3 a4 x y n:Int)(nh:Nat)(h:Nat->List SV)(all:Int)(b:Bk)(i l k:Nat)(p:List (List Int))(K:Ex->St->Prop):aF ugE (dP ugR 1) ugF (lQ++[0]++wE) 4 K (ugS (ugT n i l p k) (ugC a1 a2 a3 a4 x y (.ro nh 1 h) .nils .nils) all b none)=
 (Br (decide ((↑k:Int)<(↑l:Int))) (Br (decide (0<=(↑k:Int))&&decide ((↑k:Int)<(↑l:Int))) (∃(e398:Bk),∃(e397:Int),((bkC all b)=bkC e397 e398)/\(∀(v395:Int),∀(b'394:Bk),∀(_:MB e398 (bytesOf (p.getD (↑k:Int).toNat [])) 0 7 v395 b'394),K Ex.normal (ugS [(62,SV.int .i64 n),(63,SV.int .i64 (↑i:Int)),(68,SV.ro l 1 (aH p)),(69,SV.int .i64 (↑l:Int)),(70,SV.int .i64 (IntKind.i64.wrap ((↑k:Int)+1)))] (ugC a1 a2 a3 a4 x y (SV.ro nh 1 h) (SV.own 4 0 1 1) SV.nils) e397 b'394 (some (SB.row 3 1 1 fun (i:Nat)=>cut [SV.int .i64 v395] (i*1) 1))))) (False)) (K (Ex.exit 4) (ugS [(62,SV.int .i64 n),(63,SV.int .i64 (↑i:Int)),(68,SV.ro l 1 (aH p)),(69,SV.int .i64 (↑l:Int)),(70,SV.int .i64 (↑k:Int))] (ugC a1 a2 a3 a4 x y (SV.ro nh 1 h) (SV.nils) SV.nils) all b (none)))):=by kernel_rfl
theorem YF(a1 a2 a3 a4 x y n:Int)(nh:Nat)(h:Nat->List SV)(all:Int)(b:Bk)(i l k m:Nat)(g:Nat->List SV)(p:List (List Int))(K:Ex->St->Prop):aF ugE (dP ugR 1) ugF (lQ++[0]++wE) 4 K (ugS (ugT n i l p k) (ugC a1 a2 a3 a4 x y (.ro nh 1 h) (.own 4 0 1 m) .nils) all b (some (.row 3 1 m g)))=
 (Br (decide ((↑k:Int)<(↑l:Int))) (Br (decide (0<=(↑k:Int))&&decide ((↑k:Int)<(↑l:Int))) (∃(e398:Bk),∃(e397:Int),((bkC all b)=bkC e397 e398)/\(∀(v395:Int),∀(b'394:Bk),∀(_:MB e398 (bytesOf (p.getD (↑k:Int).toNat [])) 0 7 v395 b'394),Br (decide ((m+1)*8<=1099511627776)&&decide (m+1<9223372036854775808)&&decide (m=m)) (K Ex.normal (ugS [(62,SV.int .i64 n),(63,SV.int .i64 (↑i:Int)),(68,SV.ro l 1 (aH p)),(69,SV.int .i64 (↑l:Int)),(70,SV.int .i64 (IntKind.i64.wrap ((↑k:Int)+1)))] (ugC a1 a2 a3 a4 x y (SV.ro nh 1 h) (SV.own 4 0 1 (m+1)) SV.nils) e397 b'394 (some (SB.row 3 1 (m+1) (bI m [SV.int .i64 v395] g))))) (False))) (False)) (K (Ex.exit 4) (ugS [(62,SV.int .i64 n),(63,SV.int .i64 (↑i:Int)),(68,SV.ro l 1 (aH p)),(69,SV.int .i64 (↑l:Int)),(70,SV.int .i64 (↑k:Int))] (ugC a1 a2 a3 a4 x y (SV.ro nh 1 h) (SV.own 4 0 1 m) SV.nils) all b (some (SB.row 3 1 m g))))):=by kernel_rfl
theorem aEu(a1 a2 a3 a4 x y n:Int)(nh:Nat)(h:Nat->List SV)(all:Int)(b:Bk)(i l k m:Nat)(g:Nat->List SV)(p:List (List Int))(K:Ex->St->Prop):jI ugE (dP ugR 1) ugF lQ 2 wE K (.exit 4) (ugS (ugT n i l p k) (ugC a1 a2 a3 a4 x y (.ro nh 1 h) (.own 4 0 1 m) .nils) all b (some (.row 3 1 m g)))=
 (K Ex.normal (ugS [(62,SV.int .i64 n),(63,SV.int .i64 (IntKind.i64.wrap ((↑i:Int)+1)))] (ugC a1 a2 a3 a4 x y (SV.ro nh 1 h) (SV.own 4 0 1 m) SV.nils) all b (some (SB.row 3 1 m g)))):=by kernel_rfl
theorem aFb(a1 a2 a3 a4 x y n:Int)(nh:Nat)(h:Nat->List SV)(all:Int)(b:Bk)(i:Nat)(K:KC):aE ugE (dP ugR 1) ugF lQ 1 K (.exit 2) (ugS [(62,.int .i64 n),(63,.int .i64 i)] (ugC a1 a2 a3 a4 x y (.ro nh 1 h) .nils .nils) all b none)=
 (∃(e400:Bk),∃(e399:Int),∃(e398:Nat),(((bkC all b)=bkC e399 e400/\8=(↑e398:Int)/\79=79)/\aK e400/\cP e399/\e398<=1000)/\(∀(L396:List (Int×Int×Bool)),∀(b'395:Bk),∀(_:OV (⟨#[107,105,110,100]⟩:ByteArray) (g7 e399) e398 e400 L396 b'395),K (SV.agg [SV.int .i64 a1,SV.int .i64 a2,SV.int .i64 a3,SV.int .i64 a4,SV.int .i64 x,SV.int .i64 y,SV.ro nh 1 h,SV.nils,SV.ro L396.length 3 (aY kiL (0,0,false) L396),SV.nils,SV.nils,SV.nils,SV.int .i64 0,SV.int .i64 0,SV.int .u32 0,SV.int .i64 0]) [some (SB.cells 130 (bkC e399 b'395))] [0])):=by kernel_rfl
theorem aES(a1 a2 a3 a4 x y n:Int)(nh:Nat)(h:Nat->List SV)(all:Int)(b:Bk)(i m:Nat)(g:Nat->List SV)(K:KC):aE ugE (dP ugR 1) ugF lQ 1 K (.exit 2) (ugS [(62,.int .i64 n),(63,.int .i64 i)] (ugC a1 a2 a3 a4 x y (.ro nh 1 h) (.own 4 0 1 m) .nils) all b (some (.row 3 1 m g)))=
 (∃(e400:Bk),∃(e399:Int),∃(e398:Nat),(((bkC all b)=bkC e399 e400/\8=(↑e398:Int)/\79=79)/\aK e400/\cP e399/\e398<=1000)/\(∀(L396:List (Int×Int×Bool)),∀(b'395:Bk),∀(_:OV (⟨#[107,105,110,100]⟩:ByteArray) (g7 e399) e398 e400 L396 b'395),K (SV.agg [SV.int .i64 a1,SV.int .i64 a2,SV.int .i64 a3,SV.int .i64 a4,SV.int .i64 x,SV.int .i64 y,SV.ro nh 1 h,SV.own 1 0 1 m,SV.ro L396.length 3 (aY kiL (0,0,false) L396),SV.nils,SV.nils,SV.nils,SV.int .i64 0,SV.int .i64 0,SV.int .u32 0,SV.int .i64 0]) [some (SB.cells 130 (bkC e399 b'395)),some (SB.row 3 1 m g)] [0])):=by kernel_rfl
theorem aGz (a1 a2 a3 a4 x y:Int) (all:Int) (b0:Bk) (hb:aK b0) (ha:cP all) (h3:0<=a3/\a3<=64) (h4:0<=a4/\a4<=64) (K:KC)
  (hK: ∀(L:List Int) (b:Bk),(L,b)=dX (lV all (a3+1).toNat) (a4+1).toNat b0->aK b-> ∃q,bO ugE (dP ugR 1) ugF lQ 2 1 K q (ugS [(62,.int .i64 a4),(63,.int .i64 0)] (ugC a1 a2 a3 a4 x y (lY 1 eK 0 L) .nils .nils) all b none)):
  ∃q,bO ugE (dP ugR 1) ugF J1 0 1 K q (ugS [(46,.int .i64 (IntKind.i64.wrap (a4+1))),(47,.int .i64 0)] (ugC a1 a2 a3 a4 x y .nils .nils .nils) all b0 none):=by
 have w3:IntKind.i64.wrap (a3+1)=(((a3+1).toNat:Nat):Int):=by rw [gY];omega
 have w4:IntKind.i64.wrap (a4+1)=(((a4+1).toNat:Nat):Int):=by rw [gY];omega
 rw [w4]
 have hm0:0<(a3+1).toNat:=by omega
 have hm1:(a3+1).toNat<=65:=by omega
 have hr0:0<(a4+1).toNat:=by omega
 have hr1:(a4+1).toNat<=65:=by omega
 generalize (a3+1).toNat=m at*
 generalize (a4+1).toNat=r at*
 have hok: ∀i,aK (dX (lV all m) i b0).2:=pE (fun _ h=>GZ h) hb
 have hlen: ∀i,(dX (lV all m) i b0).1.length=i*m:=xJ (fun _ h=>GZ h) (fun _ h=>DQ h) hb
 refine ⟨r+1, ?_⟩
 show iter (aF ugE (dP ugR 1) ugF J1 0) (aE ugE (dP ugR 1) ugF J1 1 K) (r+1) (ugS [(46,.int .i64 (r:Nat)),(47,.int .i64 ((0:Nat):Int))] (ugC a1 a2 a3 a4 x y .nils .nils .nils) all (dX (lV all m) 0 b0).2 none)
 refine u2 (e:=22) (st:=1) (id:=4) (f:=eK) (fun i=>(dX (lV all m) i b0).1) (fun o r' i=>ugS [(46,.int .i64 (r:Nat)),(47,.int .i64 (i:Nat))] (ugC a1 a2 a3 a4 x y o .nils .nils) all (dX (lV all m) i b0).2 r') r kQ (fun i o r' hi ht X hX=> ?_) fun o r' ht X=> ?_
 ·have hl:=hlen i
  have him:i*m<=65*65:=Nat.mul_le_mul (by omega) hm1
  rcases ht with ⟨h0,rfl,rfl⟩|⟨g,hne,rfl,rfl,hg⟩
  ·rw [aFl,aO hi (by omega)]
   refine Br.of (fun _=>⟨_,all,m,⟨⟨rfl,w3⟩,hok i,ha,hm0,by omega⟩,fun p b1 h1=>⟨p,b1,all,⟨⟨rfl,h1.1.2.symm,rfl⟩,by rw [h1.1.2];omega⟩,fun L b2 h2=>⟨fun _ _=>⟨rfl,rfl⟩,Br.of (fun _=>Br.of (fun _=> ?_) fun c=>absurd hm0 (of_decide_eq_false c)) fun c=>absurd c (by simp;omega)⟩⟩⟩) fun c=>nF hi c
   obtain ⟨⟨rfl,hl1⟩,rfl⟩:=h1
   obtain ⟨⟨rfl,hl2⟩,rfl⟩:=h2
   refine hX _ _ ?_
   show cB _ 1 4 eK ((dX (lV all m) i b0).1++(lV all m (dX (lV all m) i b0).2).1) _ _
   rw [h0,List.nil_append]
   have e:(lV all m (dX (lV all m) i b0).2).1.length=m:=DQ (hok i)
   exact .inr ⟨_,fun hn=>by rw [hn] at e;simp at e;omega,by rw [e],by rw [e];rfl,fun j hj=>dM hj⟩
  ·rw [Y0,aO hi (by omega)]
   refine Br.of (fun _=>⟨_,all,m,⟨⟨rfl,w3⟩,hok i,ha,hm0,by omega⟩,fun p b1 h1=>⟨p,b1,all,⟨⟨rfl,h1.1.2.symm,rfl⟩,by rw [h1.1.2];omega⟩,fun L b2 h2=>⟨fun _ _=>⟨rfl,rfl⟩,Br.of (fun _=> ?_) fun c=>absurd c (by simp;omega)⟩⟩⟩) fun c=>nF hi c
   obtain ⟨⟨rfl,hl1⟩,rfl⟩:=h1
   obtain ⟨⟨rfl,hl2⟩,rfl⟩:=h2
   refine hX _ _ ?_
   have e:(lV all m (dX (lV all m) i b0).2).1.length=m:=DQ (hok i)
   exact O9 (L:=(dX (lV all m) i b0).1) (p:=(lV all m (dX (lV all m) i b0).2).1) (fun hn=>by rw [hn] at e;simp at e;omega) rfl e.symm hg fun j hj=>dM hj
 ·have hl:=hlen r
  have hpos:0<r*m:=Nat.mul_pos hr0 hm0
  rcases ht with ⟨h0,rfl,rfl⟩|⟨g,hne,rfl,rfl,hg⟩
  ·rw [h0] at hl;simp at hl;omega
  ·rw [Y0]
   refine Br.of (fun c=>mD c) fun _=> ?_
   show aE ugE (dP ugR 1) ugF J1 1 K (.exit 0) (ugS [(46,.int .i64 (r:Nat)),(47,.int .i64 (r:Nat))] (ugC a1 a2 a3 a4 x y (.own 4 0 1 _) .nils .nils) all _ (some (.row 22 1 _ g)))
   rw [aDw]
   have:=hK _ _ rfl (hok r)
   unfold lY at this
   rw [<- aAd (d:=0) hg] at this
   exact this
theorem aGF (a1 a2 a3 a4 x y n:Int) (nh:Nat) (h:Nat->List SV) (all:Int) (b1:Bk) (i l:Nat) (p:List (List Int)) (hp:p.length=l) (hl:0<l) (hl2:l<=64) (L:List Int) (hL:L.length<=100000) {o:SV} {r:Option SB} (ht:cB 3 1 4 eK L o r) (K:Ex->St->Prop)
  (hK: ∀o' r',cB 3 1 4 eK (L++(p.foldl (mB 0 7) ([],b1)).1) o' r'->K .normal (ugS [(62,.int .i64 n),(63,.int .i64 (IntKind.i64.wrap ((i:Nat)+1)))] (ugC a1 a2 a3 a4 x y (.ro nh 1 h) o' .nils) all (p.foldl (mB 0 7) ([],b1)).2 r')):
  ∃q,iter (aF ugE (dP ugR 1) ugF (lQ++[0]++wE) 4) (jI ugE (dP ugR 1) ugF lQ 2 wE K) q (ugS (ugT n i l p 0) (ugC a1 a2 a3 a4 x y (.ro nh 1 h) o .nils) all b1 r):=by
 refine ⟨l+1, ?_⟩
 show iter (aF ugE (dP ugR 1) ugF (lQ++[0]++wE) 4) (jI ugE (dP ugR 1) ugF lQ 2 wE K) (l+1) (ugS (ugT n i l p 0) (ugC a1 a2 a3 a4 x y (.ro nh 1 h) o .nils) all ((p.take 0).foldl (mB 0 7) ([],b1)).2 r)
 refine u2 (e:=3) (st:=1) (id:=4) (f:=eK) (fun k=>L++((p.take k).foldl (mB 0 7) ([],b1)).1) (fun o r' k=>ugS (ugT n i l p k) (ugC a1 a2 a3 a4 x y (.ro nh 1 h) o .nils) all ((p.take k).foldl (mB 0 7) ([],b1)).2 r') l (by show cB _ 1 4 eK (L++[]) o r;rw [List.append_nil];exact ht) (fun k o r' hk ht X hX=> ?_) fun o r' ht X=> ?_
 ·have hf:=OE (mB 0 7) (([],b1):List Int×Bk) (p:=p) (i:=k) (by omega)
  have hkl:((p.take k).foldl (mB 0 7) ([],b1)).1.length=k:=by rw [AZ,List.length_take];simp;omega
  simp only [hf] at hX
  generalize (p.take k).foldl (mB 0 7) ([],b1)=s at*
  obtain ⟨M,b⟩:=s
  simp only at ht hX hkl|-
  have hX: ∀v:Int,v=kF b (rl (p.getD k [])) 0 7-> ∀o' r',cB 3 1 4 eK ((L++M)++[v]) o' r'->X (ugS (ugT n i l p (k+1)) (ugC a1 a2 a3 a4 x y (.ro nh 1 h) o' .nils) all (iI b (rl (p.getD k [])) 0 7) r'):=fun v hv o' r' ht=>hX o' r' (by
   show cB _ 1 4 eK (L++(M++[kF b (rl (p.getD k [])) 0 7])) o' r'
   rw [<- hv,<- List.append_assoc];exact ht)
  rcases ht with ⟨h0,rfl,rfl⟩|⟨g,hne,rfl,rfl,hg⟩
  ·rw [aD9,aO hk (by omega),Int.toNat_natCast]
   refine Br.of (fun _=>Br.of (fun _=>⟨b,all,rfl,fun v b' hv=> ?_⟩) fun c=>nH hk c) fun c=>nF hk c
   obtain ⟨hv,rfl⟩:=hv
   exact hX v hv _ _ (by rw [h0];exact eO rfl rfl)
  ·have hlen:(L++M).length<=100100:=by rw [List.length_append];omega
   rw [YF,aO hk (by omega),Int.toNat_natCast]
   refine Br.of (fun _=>Br.of (fun _=>⟨b,all,rfl,fun v b' hv=>Br.of (fun _=> ?_) fun c=>absurd c (by rw [List.length_append] at hlen;simp;omega)⟩) fun c=>nH hk c) fun c=>nF hk c
   obtain ⟨hv,rfl⟩:=hv
   exact hX v hv _ _ (fM rfl rfl hg)
 ·rw [<- hp,List.take_length] at ht|-
  rcases ht with ⟨h0,rfl,rfl⟩|⟨g,hne,rfl,rfl,hg⟩
  ·have:=congrArg List.length h0
   simp only [List.length_append,AZ,List.length_nil] at this
   omega
  ·rw [YF]
   refine Br.of (fun c=>mD c) fun _=> ?_
   show jI ugE (dP ugR 1) ugF lQ 2 wE K (.exit 4) (ugS (ugT n i p.length p p.length) (ugC a1 a2 a3 a4 x y (.ro nh 1 h) (.own 4 0 1 _) .nils) all _ (some (.row 3 1 _ g)))
   rw [aEu]
   exact hK _ _ (.inr ⟨g,hne,rfl,rfl,hg⟩)
def aDm(v:SV->SV)(L:List Int)(b:SB)(K:KC):Prop:=
 (L=[]->K (v .nils) [some b] [0])/\ ∀g,L≠[]->(∀j (h:j<L.length),g j=eK L[j])->K (v (.own 1 0 1 L.length)) [some b,some (.row 3 1 L.length g)] [0]
theorem aGy (a1 a2 a3 a4 x y:Int) (L0:List Int) (all:Int) (b0:Bk) (hb:aK b0) (ha:cP all) (h3:0<=a3/\a3<=64) (h4:0<=a4/\a4<=64) (h34:a4≠0->1<=a3) (K:KC)
  (hK: ∀(G:List Int) (b:Bk),(G,b)=dX (qP all a3.toNat) a4.toNat b0-> ∀(L:List (Int×Int×Bool)) (b':Bk),OV (ba iK) (g7 all) 8 b L b'->aDm (fun g=> .agg (ugC a1 a2 a3 a4 x y (lY 1 eK 0 L0) g (lY 3 kiL (0,0,false) L))) G (.cells 130 (bkC all b')) K):
  ∃q,bO ugE (dP ugR 1) ugF lQ 2 1 K q (ugS [(62,.int .i64 a4),(63,.int .i64 0)] (ugC a1 a2 a3 a4 x y (lY 1 eK 0 L0) .nils .nils) all b0 none):=by
 have hok: ∀i,aK (dX (qP all a3.toNat) i b0).2:=pE (fun _ h=>HE h) hb
 have hlen: ∀i,(dX (qP all a3.toNat) i b0).1.length=i*a3.toNat:=xJ (fun _ h=>HE h) (fun _ h=>aAR h) hb
 refine ⟨a4.toNat+1, ?_⟩
 show iter (aF ugE (dP ugR 1) ugF lQ 2) (aE ugE (dP ugR 1) ugF lQ 1 K) (a4.toNat+1) (ugS [(62,.int .i64 a4),(63,.int .i64 ((0:Nat):Int))] (ugC a1 a2 a3 a4 x y (.ro L0.length 1 (aY eK 0 L0)) .nils .nils) all (dX (qP all a3.toNat) 0 b0).2 none)
 refine u2 (e:=3) (st:=1) (id:=4) (f:=eK) (fun i=>(dX (qP all a3.toNat) i b0).1) (fun o r' i=>ugS [(62,.int .i64 a4),(63,.int .i64 (i:Nat))] (ugC a1 a2 a3 a4 x y (.ro L0.length 1 (aY eK 0 L0)) o .nils) all (dX (qP all a3.toNat) i b0).2 r') a4.toNat kQ (fun i o r' hi ht X hX=> ?_) fun o r' ht X=> ?_
 ·have h1:=h34 (by omega)
  have hl:=hlen i
  have him:i*a3.toNat<=64*64:=Nat.mul_le_mul (by omega) (by omega)
  have hw:IntKind.i64.wrap (((i:Nat):Int)+1)=((i+1:Nat):Int):=by rw [gY];omega
  have step: ∀(p:List (List Int)) (b1:Bk),uP all (dX (qP all a3.toNat) i b0).2 (ba iP) a3.toNat p b1-> ∀KK,∃q,iter (aF ugE (dP ugR 1) ugF (lQ++[0]++wE) 4) (jI ugE (dP ugR 1) ugF lQ 2 wE (eT X KK)) q (ugS (ugT a4 i a3.toNat p 0) (ugC a1 a2 a3 a4 x y (.ro L0.length 1 (aY eK 0 L0)) o .nils) all b1 r'):=fun p b1 hp KK=>by
   obtain ⟨⟨rfl,hpl⟩,rfl⟩:=hp
   refine aGF a1 a2 a3 a4 x y a4 L0.length (aY eK 0 L0) all _ i a3.toNat _ hpl (by omega) (by omega) _ (by omega) ht _ fun o' r'' ht'=> ?_
   rw [hw]
   exact hX o' r'' ht'
  have e3:a3=((a3.toNat:Nat):Int):=by omega
  rcases ht with ⟨h0,rfl,rfl⟩|⟨g,hne,rfl,rfl,hg⟩
  ·rw [XY]
   exact Br.of (fun _=>⟨_,all,a3.toNat,⟨⟨rfl,e3⟩,hok i,ha,by omega,by omega⟩,fun p b1 hp=>step p b1 hp _⟩) fun c=>absurd (of_decide_eq_false c) (by omega)
  ·rw [XT]
   exact Br.of (fun _=>⟨_,all,a3.toNat,⟨⟨rfl,e3⟩,hok i,ha,by omega,by omega⟩,fun p b1 hp=>step p b1 hp _⟩) fun c=>absurd (of_decide_eq_false c) (by omega)
 ·have e4:a4=((a4.toNat:Nat):Int):=by omega
  have hK:=fun L b' h=>hK (dX (qP all a3.toNat) a4.toNat b0).1 (dX (qP all a3.toNat) a4.toNat b0).2 rfl L b' h
  have hok:=hok a4.toNat
  generalize dX (qP all a3.toNat) a4.toNat b0=s at*
  rcases ht with ⟨h0,rfl,rfl⟩|⟨g,hne,rfl,rfl,hg⟩
  ·rw [XY]
   refine Br.of (fun c=>absurd (of_decide_eq_true c) (by omega)) fun _=> ?_
   show aE ugE (dP ugR 1) ugF lQ 1 K (.exit 2) (ugS [(62,.int .i64 a4),(63,.int .i64 (a4.toNat:Nat))] (ugC a1 a2 a3 a4 x y (.ro L0.length 1 (aY eK 0 L0)) .nils .nils) all s.2 none)
   rw [aFb]
   exact ⟨_,all,8,⟨⟨rfl,rfl,rfl⟩,hok,ha,by decide⟩,fun L b' h=>(hK L b' h).1 h0⟩
  ·rw [XT]
   refine Br.of (fun c=>absurd (of_decide_eq_true c) (by omega)) fun _=> ?_
   show aE ugE (dP ugR 1) ugF lQ 1 K (.exit 2) (ugS [(62,.int .i64 a4),(63,.int .i64 (a4.toNat:Nat))] (ugC a1 a2 a3 a4 x y (.ro L0.length 1 (aY eK 0 L0)) (.own 4 0 1 _) .nils) all s.2 (some (.row 3 1 _ g)))
   rw [aES]
   exact ⟨_,all,8,⟨⟨rfl,rfl,rfl⟩,hok,ha,by decide⟩,fun L b' h=>(hK L b' h).2 g hne hg⟩
theorem aE6 (all:Int) (b:Bk) (hb:aK b) (ha:cP all) (K:KC)
  (hK: ∀t b',(t,b')=iA all b->aDm (fun g=> .agg (ugC t.rate t.cell t.cols t.rows t.corner.1 t.corner.2 (lY 1 eK 0 t.heights) g (lY 3 kiL (0,0,false) t.kinds))) t.ground (.cells 130 (bkC all b')) K):
  aF5 ugR (fun _=>0) o5 4 32 [.agg [.ptr 0 0]] [some (.cells 130 (bkC all b))] K:=by
 rw [aAs]
 refine ⟨b,all,1,⟨⟨rfl,rfl⟩,hb,ha,by decide,by decide⟩,fun p1 b1 h1=>⟨b1,all,rfl,fun v1 b2 h2=> ?_⟩⟩
 obtain ⟨⟨rfl,_⟩,rfl⟩:=h1
 obtain ⟨hv1,hb2⟩:=h2
 have e1:(v1,b2)=IH all (ba rN) 60 1024 b:=by rw [hv1,hb2];rfl
 have k1:aK b2:=by rw [show b2=_ from congrArg Prod.snd e1];exact QT hb
 clear hv1 hb2
 refine ⟨b2,all,1,⟨⟨rfl,rfl⟩,k1,ha,by decide,by decide⟩,fun p2 b3 h3=>⟨b3,all,rfl,fun v2 b4 h4=> ?_⟩⟩
 obtain ⟨⟨rfl,_⟩,rfl⟩:=h3
 obtain ⟨hv2,hb4⟩:=h4
 have e2:(v2,b4)=ND all (ba rK) b2:=by rw [hv2,hb4];rfl
 have k2:aK b4:=by rw [show b4=_ from congrArg Prod.snd e2];exact QL k1
 clear hv2 hb4
 refine ⟨b4,all,2,⟨⟨rfl,rfl⟩,k2,ha,by decide,by decide⟩,fun p3 b5 h5=>⟨b5,all,rfl,fun v3 b6 h6=>⟨b6,all,rfl,fun v4 b7 h7=> ?_⟩⟩⟩
 obtain ⟨⟨rfl,_⟩,rfl⟩:=h5
 obtain ⟨hv3,rfl⟩:=h6
 obtain ⟨hv4,hb7⟩:=h7
 have e3:((v3,v4),b7)=vK all b4:=by rw [hv3,hv4,hb7];rfl
 have k3:aK b7:=by rw [show b7=_ from congrArg Prod.snd e3];exact QZ k2
 clear hv3 hv4 hb7
 refine ⟨b7,all,2,⟨⟨rfl,rfl⟩,k3,ha,by decide,by decide⟩,fun p4 b8 h8=>⟨p4,b8,all,⟨rfl,rfl,by decide⟩,fun x y b9 h9=> ?_⟩⟩
 obtain ⟨⟨rfl,_⟩,rfl⟩:=h8
 obtain ⟨hxy,hb9⟩:=h9
 have e4:((x,y),b9)=qF all b7:=by rw [hxy,hb9];rfl
 have k4:aK b9:=by rw [show b9=_ from congrArg Prod.snd e4];exact DK k3
 clear hxy hb9
 obtain ⟨r1,r2,r3⟩:=Y2 all b4
 rw [<- e3] at r1 r2 r3
 refine aGz v1 v2 v3 v4 x y all b9 k4 ha r1 r2 K fun H b10 eH k5=>aGy v1 v2 v3 v4 x y H all b10 k5 ha r1 r2 r3 K fun G b11 eG L b12 hL=> ?_
 refine hK ⟨v1,v2,v3,v4,(x,y),H,G,L,[],[],[],(0,0),0,0⟩ b12 ?_
 unfold iA
 rw [<- e1];simp only
 rw [<- e2];simp only
 rw [<- e3];simp only
 rw [<- e4];simp only
 rw [<- eH];simp only
 rw [<- eG];simp only
 rw [<- show (L,b12)=cY (ba iK) (g7 all) 8 ([],b11) from hL]
def ugV(t:TL):SV:= .agg (ugC t.rate t.cell t.cols t.rows t.corner.1 t.corner.2 (lY 1 eK 0 t.heights) (lY 1 eK 0 t.ground) (lY 3 kiL (0,0,false) t.kinds))
theorem RV{a1 a2 a3 a4 x y:Int}{h g g' k:SV}{ρ:aG}{T:Nat->Prop}{w:World}(hg: ∀v,rel ρ T w g v->rel ρ T w g' v){v:Value}(hv:rel ρ T w (.agg (ugC a1 a2 a3 a4 x y h g k)) v):rel ρ T w (.agg (ugC a1 a2 a3 a4 x y h g' k)) v:=by
 obtain ⟨a,rfl,v1,l1,e1,q1,v2,l2,e2,q2,v3,l3,e3,q3,v4,l4,e4,q4,v5,l5,e5,q5,v6,l6,e6,q6,v7,l7,e7,q7,v8,l8,e8,q8,q9⟩:=hv
 exact ⟨a,rfl,v1,l1,e1,q1,v2,l2,e2,q2,v3,l3,e3,q3,v4,l4,e4,q4,v5,l5,e5,q5,v6,l6,e6,q6,v7,l7,e7,q7,v8,l8,e8,hg _ q8,q9⟩
theorem aF1(b:Bk)(all:Int)(hb:aK b)(ha:cP all):aD Tryz.prog 32 [.agg [.ptr 0 0]] [some (.cells 130 (bkC all b))] (ugV (iA all b).1) [some (.cells 130 (bkC all (iA all b).2))] [0]:=by
 generalize hx:iA all b=x
 obtain ⟨t,b'⟩:=x
 obtain ⟨v,σ',d,hv,hc⟩:=bX (env:=tab.env o5 (fun _=>0) (fun _=>false)) ⟨tab.htt,o5.ok⟩ tab.mixed (fun n=>wQ n ugR) tab.hft 4 _ _ _
  (fun v σ' d=>(t.ground=[]/\v= .agg (ugC t.rate t.cell t.cols t.rows t.corner.1 t.corner.2 (lY 1 eK 0 t.heights) .nils (lY 3 kiL (0,0,false) t.kinds))/\σ'=[some (.cells 130 (bkC all b'))]/\d=[0])\/
   ∃g,(∀j (h:j<t.ground.length),g j=eK t.ground[j])/\v= .agg (ugC t.rate t.cell t.cols t.rows t.corner.1 t.corner.2 (lY 1 eK 0 t.heights) (.own 1 0 1 t.ground.length) (lY 3 kiL (0,0,false) t.kinds))/\σ'=[some (.cells 130 (bkC all b')),some (.row 3 1 t.ground.length g)]/\d=[0])
  (aE6 all b hb ha _ fun t' b'' e=>by
   rw [hx] at e
   cases e
   exact ⟨fun h=> .inl ⟨h,rfl,rfl,rfl⟩,fun g _ hg=> .inr ⟨g,hg,rfl,rfl,rfl⟩⟩)
 rcases hv with ⟨h0,rfl,rfl,rfl⟩|⟨g,hg,rfl,rfl,rfl⟩
 ·refine pP (fun ρ T w z hz=>RV (fun v hv=> ?_) hz) hc
  show rel ρ T w (.ro t.ground.length 1 _) v
  rw [h0];exact fS hv
 ·refine pP (fun ρ T w z hz=> ?_) (C8 2 (x0 b' all) (σ':=[some (.row 3 1 t.ground.length g)]) (fun p hp=>by
   match p,hp with
   |0,hp=>cases hp) hc)
  have hb:Nat.ble t.ground.length t.ground.length=true:=by simp
  have hz:rel ρ T w (.agg (ugC t.rate t.cell t.cols t.rows t.corner.1 t.corner.2 (lY 1 eK 0 t.heights) (bif Nat.ble t.ground.length t.ground.length then .ro t.ground.length 1 g else .junk) (lY 3 kiL (0,0,false) t.kinds))) z:=hz
  rw [hb] at hz
  exact RV (fun v hv=>nL rfl (fun i hi=>by rw [hg i hi,dM hi]) hv) hz
theorem aEX(xs:List SV)(σ:List (Option SB)):Sat Tryz.prog 32 xs σ (zF ugV (isF iA) xs σ):=rJ (F:=iA) (fun _ _=>rfl) aF1 xs σ
end Go.Proofs.YtghnfjfkjhbgdaaGreatDoor
namespace Go.Se
variable {P:Program}
theorem IP {k:FuncId} {fn:Func} (hf:P.funcs[k]? =some fn) (hname:(fn.name== "runtime.NumGoroutine")=false) (hb:fn.body.isNone=true)
  (hn:Extern.findNext fn=none) (he:Extern.find fn=some Extern.AbiNoEscape.same) (x:SV) (σ:List (Option SB)):aD P k [x] σ x σ []:=by
 intro ρ T w vals h1 h2 h3 h4
 obtain ⟨a,r,hv,ha,hr⟩:=h1
 cases hr
 obtain rfl:vals= #[a]:=by rw [<- Array.toList_inj,hv]
 refine .inr ⟨a,w, ?_,ρ,T,{
  names:=fun _ _ h=>h
  only:=fun p b h=>(h4 p b h).1
  len:=Nat.le_refl _
  val:=ha
  store:=fun p sb h=> ?_
  fresh:=fun p b hp h=>absurd (h4 p b h).1 (Nat.not_lt.2 hp)
  inj:=fun p q b hp _ h _=>absurd (h4 p b h).1 (Nat.not_lt.2 hp)
  dirty:=fun _ h=>by cases h
  grow:=aX.refl _ _
  tback:=fun _ _ h=>h
  below:=fun p b h=>(h4 p b h).2
  tkeep:=fun _ _ h=> .inl h}⟩
 ·rw [run_callFunc_extern hf hname hb hn he]
  rfl
 ·have hp:p<σ.length:=by
   refine Nat.not_le.1 fun hh=> ?_
   rw [List.getElem?_eq_none hh] at h;cases h
  obtain ⟨sb',b,e,hb',hT,hrel⟩:=h2 p hp
  rw [e] at h;cases h
  exact ⟨b,hb',hT,hrel⟩
def aBk :List SV->List (Option SB)->Out
 | [.ptr i o],σ=>some (.ptr i o,σ,[])
 |_,_=>none
theorem aB2 {k:FuncId} {fn:Func} (hf:P.funcs[k]? =some fn) (hname:(fn.name== "runtime.NumGoroutine")=false) (hb:fn.body.isNone=true)
  (hn:Extern.findNext fn=none) (he:Extern.find fn=some Extern.AbiNoEscape.same) (xs:List SV) (σ:List (Option SB)):Sat P k xs σ (one aBk xs σ):=by
 refine bD (fun xs σ v σ' d h=> ?_) xs σ
 unfold aBk at h
 split at h
 ·cases h;exact IP hf hname hb hn he _ _
 ·cases h
end Go.Se
namespace Go.Se
variable {P:Program}
theorem D7 {k:FuncId} {fn:Func} (hf:P.funcs[k]? =some fn) (hname:(fn.name== "runtime.NumGoroutine")=false) (hb:fn.body.isNone=true)
  (hn:Extern.findNext fn=none) {ps:Array TypeId} {t e:TypeId} (he:Extern.find fn=some (Extern.BytealgMakeNoZero.makeNoZero ps #[t])) (ht:P.underlying t=some (.slice e)) (n:Nat) (hn2:n<=1099511627776):
  aD P k [.int .i64 n] [] (.own 0 0 1 n) [some (.row e 1 n fun _=>[.junk])] []:=by
 intro ρ T w vals h1 _ h3 h4
 obtain ⟨a,r,hv,ha,hr⟩:=h1
 cases hr
 obtain rfl:vals= #[a]:=by rw [<- Array.toList_inj,hv]
 obtain rfl:a= .int .i64 n:=ha.1
 obtain ⟨cs,hrun,hle,hmax⟩:=Lib.run_makeNoZero (P:=P) w ps t e ht n (by omega)
 have hmx:=hmax (by simp only [maxLen];omega)
 simp only [maxLen] at hmx
 have hρ: ∀p,ρ p=none:=fun p=>by
  cases hp:ρ p with
  |none=>rfl
  |some b=>exact absurd (h4 p b hp).1 (Nat.not_lt_zero _)
 have hsz:(w.drew.drew.alloc (.cells cs e)).heap.size=w.heap.size+1:=by show (w.heap.push _).size=_;simp
 have hnew:(w.drew.drew.alloc (.cells cs e)).heap[w.heap.size]? =some (.cells cs e (0,0)):=by
  show (w.heap.push _)[w.heap.size]? =_
  simp
 have hold: ∀b,b<w.heap.size->(w.drew.drew.alloc (.cells cs e)).heap[b]? =w.heap[b]? :=fun b hb=>by
  show (w.heap.push _)[b]? =_
  rw [Array.getElem?_push,if_neg (Nat.ne_of_lt hb)]
 refine .inr ⟨.slice (some ⟨w.heap.size,0,none⟩) n cs.size,w.drew.drew.alloc (.cells cs e), ?_,fun p=>if p=0 then some w.heap.size else none,fun b=>T b\/b=w.heap.size,{
  names:=fun p b hp=>by rw [hρ] at hp;cases hp
  only:=fun p b hp=>by
   split at hp
   ·subst p;exact Nat.zero_lt_one
   ·cases hp
  len:=Nat.zero_le _
  val:=⟨w.heap.size,cs.size,by simp,by simp,hle,by omega,cs,e,(0,0),hnew,by omega⟩
  store:=fun p sb hp=> ?_
  fresh:=fun p b _ hp=> ?_
  inj:=fun p q b _ _ hp hq=> ?_
  dirty:=fun _ h=>by cases h
  grow:=⟨by rw [hsz];omega,fun b hb _=>hold b hb,fun b vs e f hb=>⟨vs,f,by rw [hold b (Array.getElem?_eq_some_iff.1 hb).1];exact hb,rfl⟩,rfl,rfl,rfl⟩
  tback:=fun b hb hT=>hT.resolve_right (by omega)
  below:=fun p b hp=> ?_
  tkeep:=fun _ _ h=> .inl (.inl h)}⟩
 ·rw [run_callFunc_extern hf hname hb hn he,hrun]
  rfl
 ·cases p with
  |succ p=>simp at hp
  |zero=>
   simp only [List.getElem?_cons_zero,Option.some.injEq] at hp
   subst hp
   exact ⟨w.heap.size,by simp,.inr rfl,cs,hnew,by omega,fun i hi=>by
    have hlen:((cs.toList.drop (i*1)).take 1).length=1:=by
     rw [List.length_take,List.length_drop,Array.length_toList];omega
    obtain ⟨x,hx⟩:=List.length_eq_one_iff.1 hlen
    rw [hx]
    exact ⟨x,[],rfl,trivial,rfl⟩⟩
 ·split at hp
  ·cases hp;exact .inl (Nat.le_refl _)
  ·cases hp
 ·split at hp
  ·split at hq
   ·subst p;subst q;rfl
   ·cases hq
  ·cases hp
 ·split at hp
  ·cases hp;rw [hsz];omega
  ·cases hp
end Go.Se
namespace Go.Proofs.YtghnfjfkjhbgdaaGreatDoor
open Go.Se
set_option maxRecDepth 100000
theorem YN(xs:List SV)(σ:List (Option SB)):Sat Tryz.prog 153 xs σ (one aBk xs σ):=
 aB2 Tryz.func153 (by kernel_rfl) (by kernel_rfl) (by kernel_rfl) (by kernel_rfl) xs σ
theorem ZN :Tryz.prog.underlying 47=some (.slice 5):=by kernel_rfl
theorem aF0(n:Nat)(h:n<=1099511627776):aD Tryz.prog 199 [.int .i64 n] [] (.own 0 0 1 n) [some (.row 5 1 n fun _=>[.junk])] []:=
 D7 Tryz.func199 (by kernel_rfl) (by kernel_rfl) (by kernel_rfl) (ps:= #[3]) (t:=47) (by kernel_rfl) ZN n h
def cNz :List SV->List (Option SB)->KC->Prop
 | [.int .i64 n],[],K=> ∃m:Nat,(n=(m:Int)/\m<=1099511627776)/\K (.own 0 0 1 m) [some (.row 5 1 m fun _=>[.junk])] []
 |_,_,_=>False
theorem aEL(xs:List SV)(σ:List (Option SB)):Sat Tryz.prog 199 xs σ (cNz xs σ):=by
 intro K hK
 unfold cNz at hK
 split at hK
 case h_2=>exact hK.elim
 obtain ⟨m,⟨rfl,h⟩,hK⟩:=hK
 exact ⟨_,_,_,hK,aF0 m h⟩
noncomputable def n1 :bT Tryz.prog:=((y8).add 153 (one aBk) YN).add 199 cNz aEL
abbrev sbT :TypeId:=49
theorem aD0(s:ByteArray)(K:KC):run n1 3 60 [.ptr 0 0,.str s] [some (.cells sbT [.nilp,.nils])] K=
 ((∀(i:Nat),i<s.size->(CI s i).length=1/\(CI s i).all aW=true)/\(Br (true&&(decide (s.size*1<=1099511627776)&&decide (s.size<9223372036854775808))) (Br (decide (0<s.size)) (K (SV.tup [SV.int .i64 (↑s.size:Int),SV.nilI]) [some (SB.cells 49 [SV.ptr 0 0,SV.own 1 0 1 s.size]),some (SB.row 5 1 s.size (CI s))] [0]) (K (SV.tup [SV.int .i64 (↑s.size:Int),SV.nilI]) [some (SB.cells 49 [SV.ptr 0 0,SV.nils])] [0])) (False))):=by kernel_rfl
theorem aFv(s:ByteArray)(n:Nat)(g:Nat->List SV)(K:KC):run n1 3 60 [.ptr 0 0,.str s] [some (.cells sbT [.ptr 0 0,.own 1 0 1 n]),some (.row 5 1 n g)] K=
 ((∀(i:Nat),i<s.size->(CI s i).length=1/\(CI s i).all aW=true)/\(Br (true&&decide (n=n)&&(decide ((n+s.size)*1<=1099511627776)&&decide (n+s.size<9223372036854775808))) (K (SV.tup [SV.int .i64 (↑s.size:Int),SV.nilI]) [some (SB.cells 49 [SV.ptr 0 0,SV.own 2 0 1 (n+s.size)]),none,some (SB.row 5 1 (n+s.size) (nZ n g (CI s)))] [0,1]) (False))):=by kernel_rfl
end Go.Proofs.YtghnfjfkjhbgdaaGreatDoor
namespace Go.Se
theorem aEV {P:Program} {k:FuncId} {xs xs':List SV} {sb:SB} {v:SV}
  (hx: ∀(ρ:aG) (T:Nat->Prop) (w:World) (b:Nat) (l:List Value),ρ 0=some b->eF ρ T w sb b->aQ ρ T w xs l->aQ (fun _=>none) (fun c=>T c/\c≠b) w xs' l) (h:aD P k xs' [] v [] []):aD P k xs [some sb] v [none] [0]:=by
 intro ρ T w vals h1 h2 h3 h4
 obtain ⟨_,b,e0,e1,e2,e3⟩:=h2 0 (by simp)
 simp only [List.getElem?_cons_zero,Option.some.injEq] at e0
 subst e0
 refine (h (fun _=>none) (fun c=>T c/\c≠b) w vals (hx ρ T w b _ e1 e3 h1) (fun p hp=>absurd hp (Nat.not_lt_zero _)) (fun _ _ _ h=>by cases h)
  ⟨fun _ _ h=>(by cases h),fun g v hg=>⟨fun ht=>(h4.inv g v hg).1 ht.1,(h4.inv g v hg).2⟩⟩).mono fun x w' ⟨ρ',T',hd⟩=> ?_
 have hp0: ∀p c,ρ p=some c->p=0:=fun p c hp=>by have:=(h4.low p c hp).1;simp at this;exact this
 refine ⟨ρ,T',{
  names:=fun _ _ h=>h
  only:=fun p c hp=>by rw [hp0 p c hp];simp
  len:=Nat.le_refl _
  val:=fU (fun p c hp=>absurd (hd.only p c hp) (Nat.not_lt_zero _)) (fun _ _ h=>h) (aX.refl T' w') _ _ hd.val
  store:=fun p s hp=>by
   match p,hp with
   |0,hp=>cases hp
  fresh:=fun p c hp hb=>by
   have:=hp0 p c hb;subst this;simp at hp
  inj:=fun p q c hp _ hb=>by
   have:=hp0 p c hb;subst this;simp at hp
  dirty:=fun p hp=>by simp at hp|-;omega
  grow:=hd.grow.mono fun c _ ⟨p,hp,_⟩=>by cases hp
  tback:=fun c hc ht=>(hd.tback c hc ht).1
  below:=fun p c hp=>Nat.lt_of_lt_of_le (h4.low p c hp).2 hd.grow.size
  tkeep:=fun c hc ht=>by
   by_cases e:c=b
   ·subst e;exact .inr ⟨0,by simp,rfl,e1⟩
   ·rcases hd.tkeep c hc ⟨ht,e⟩ with h|⟨q,hq,_⟩
    ·exact .inl h
    ·cases hq}⟩
theorem S4{ρ:aG}{T:Nat->Prop}{w:World}{b n n' st e:Nat}{g g':Nat->List SV}{v:Value}(hn:n<=n')(hg: ∀i,i<n->g' i=g i/\(g i).length=st)(h1:ρ 0=some b)(h2:eF ρ T w (.row e st n' g') b)(hv:rel ρ T w (.own 0 0 st n) v):
  rel (fun _=>none) (fun c=>T c/\c≠b) w (.ro n st g) v:=by
 obtain ⟨b',c,r1,rfl,r2,r3,_⟩:=hv
 rw [h1] at r1;cases r1
 obtain ⟨vs,r6,r7,r8⟩:=h2
 refine ⟨some ⟨b,0*st,none⟩,c,rfl,⟨r2,by omega,fun he=>by cases he⟩,fun _=>⟨b,0,by rw [Nat.zero_mul],(Array.getElem?_eq_some_iff.1 r6).1,fun ht=>ht.2 rfl,fun i hi=> ?_⟩⟩
 obtain ⟨e1,e2⟩:=hg i hi
 rw [<- e1]
 have hr:=aS (T':=fun c=>T c/\c≠b) (fun _ _ h=>h) (fun _ _ h=>h.1) (aX.refl T w) _ _ (r8 i (by omega))
 rw [Nat.zero_add]
 refine dJ hr fun j u hj=> ?_
 rw [dQ r6]
 rw [List.getElem?_take] at hj
 split at hj
 ·rw [List.getElem?_drop] at hj
  simpa using hj
 ·cases hj
theorem zH{P:Program}{k:FuncId}{s:ByteArray}{n n' st e:Nat}{g g':Nat->List SV}{v:SV}(hn:n<=n')(hg: ∀i,i<n->g' i=g i/\(g i).length=st)(h:aD P k [.ro n st g,.str s] [] v [] []):
  aD P k [.own 0 0 st n,.str s] [some (.row e st n' g')] v [none] [0]:=
 aEV (fun ρ T w b l h1 h2 h3=>by
  obtain ⟨x,r,rfl,hx,y,r9,rfl,y1,y2⟩:=h3
  exact ⟨_,_,rfl,S4 hn hg h1 h2 hx,y,r9,rfl,y1,y2⟩) h
end Go.Se
namespace Go.Se
open Go.Proofs Go.Shelf Go.RowKit
variable {P:Program}
def b8(n:Int):UInt8:=UInt8.ofNat n.toNat
theorem qR(l:List Int):(bytesOf l).data.toList=l.map b8:=by unfold bytesOf;simp [b8]
theorem FV : ∀r:List (List Int),Lib.joinTail [32] (r.map fun x=>(bytesOf x).data.toList)=(gZ r).map b8
 | []=>rfl
 |w::r=>by
  have ih:=FV r
  show ([32]++(bytesOf w).data.toList)++Lib.joinTail [32] (r.map fun x=>(bytesOf x).data.toList)=(32::(w++gZ r)).map b8
  rw [ih,qR,List.map_cons,List.map_append];rfl
theorem QN(p:List (List Int)):Lib.join ((p.map bytesOf).map (·.data.toList)) (⟨#[32]⟩:ByteArray).data.toList=(dF p).map b8:=by
 rw [List.map_map]
 cases p with
 |nil=>rfl
 |cons w r=>
  show Lib.join ((bytesOf w).data.toList::r.map fun x=>(bytesOf x).data.toList) [32]=(w++gZ r).map b8
  rw [Lib.join_cons,FV,qR,List.map_append]
theorem N5(p:List (List Int)):(⟨(Lib.join ((p.map bytesOf).map (·.data.toList)) (⟨#[32]⟩:ByteArray).data.toList).toArray⟩:ByteArray)=bytesOf (dF p):=by
 rw [QN]
 apply ByteArray.ext
 apply Array.ext'
 rw [qR]
theorem yV{R:Ren}(L:Lays.n156 P R)(X:Builder.Extra P R)(p:List (List Int))(h1:(dF p).length<=1099511627776)(h2:p.length<=1099511627776):
  aD P (R.f 156) [.ro p.length 1 (aH p),.str ⟨#[32]⟩] [] (.str (bytesOf (dF p))) [] []:=by
 intro ρ T w vals hv _ _ h4
 obtain ⟨v1,r1,e1,⟨a,c,rfl,⟨hc,_,ha⟩,hrow⟩,v2,r2,e2,⟨rfl,hs⟩,e3⟩:=hv
 have e3:r2=[]:=e3
 subst e3;subst e2
 obtain rfl:vals= #[.slice a p.length c,.string ⟨#[32]⟩]:=by apply Array.ext';exact e1
 have hρ: ∀q,ρ q=none:=fun q=>by
  cases hq:ρ q with
  |none=>rfl
  |some b=>exact absurd (h4 q b hq).1 (Nat.not_lt_zero _)
 have hsz:(bytesOf (dF p)).size<9223372036854775808:=by rw [aR];omega
 have key:Calls P (R.f 156) #[.slice a p.length c,.string ⟨#[32]⟩] w fun e w'=>e= .returned (.string (bytesOf (dF p)))/\Below w.heap.size w w':=by
  by_cases hp:p.length=0
  ·have hp0:p=[]:=List.eq_nil_of_length_eq_zero hp
   subst hp0
   refine (Any.strings_Join_none L X a c ⟨#[32]⟩ w).mono fun e w' ⟨h,h'⟩=>⟨h, ?_⟩
   rw [h'];exact Below.refl _ _
  ·obtain ⟨b,off,rfl,hb,_,hat⟩:=hrow (by omega)
   have hcells: ∀(j:Nat) x,(p.map bytesOf)[j]? =some x->w.cell? ⟨b,off+j,none⟩=some (.string x):=fun j x hx=>by
    rw [List.getElem?_map] at hx
    cases hj:p[j]? with
    |none=>rw [hj] at hx;cases hx
    |some l=>
     rw [hj] at hx
     cases hx
     have hlt:j<p.length:=(List.getElem?_eq_some_iff.1 hj).1
     obtain ⟨⟨v,k1,k2,_⟩,_⟩:=hat j hlt
     rw [Nat.mul_one] at k1
     rw [k1,k2]
     have:aH p j=[.str (bytesOf l)]:=by
      show jE (p.getD j [])=_
      rw [List.getD_eq_getElem?_getD,hj];rfl
     show some (Value.string (bytesOf (p.getD j [])))=_
     rw [List.getD_eq_getElem?_getD,hj];rfl
   have hl:(p.map bytesOf).length=p.length:=by simp
   have:=Any.strings_Join L X b off c (p.map bytesOf) ⟨#[32]⟩ w hcells hb (by omega) (by omega) (by rw [QN,List.length_map];omega)
   rw [hl,N5] at this
   exact this
 refine .inl ⟨_,L.f156,rfl,rfl,key.mono fun e w' ⟨he,hB⟩=>⟨_,he,ρ,T,{
  names:=fun _ _ h=>h
  only:=fun q b h=>by rw [hρ] at h;cases h
  len:=Nat.le_refl _
  val:=⟨rfl,hsz⟩
  store:=fun q sb h=>by simp at h
  fresh:=fun q b _ h=>by rw [hρ] at h;cases h
  inj:=fun q q' b _ _ h=>by rw [hρ] at h;cases h
  dirty:=fun _ h=>by cases h
  grow:=⟨hB.size,fun b hb _=>hB.block b hb,fun b vs e f hb=>⟨vs,f,by rw [hB.block b (Array.getElem?_eq_some_iff.1 hb).1];exact hb,rfl⟩,hB.os,hB.output,hB.tape⟩
  tback:=fun _ _ h=>h
  below:=fun q b h=>by rw [hρ] at h;cases h
  tkeep:=fun _ _ h=> .inl h}⟩⟩
end Go.Se
namespace Go.Se
open Go.Proofs Go.Shelf Go.RowKit
variable {P:Program}
theorem rV {R:Ren} (L:Lays.n156 P R) (X:Builder.Extra P R) (p:List (List Int)) (h1:(dF p).length<=1099511627776) (h2:p.length<=1099511627776) {e n':Nat} {g:Nat->List SV} (hn:p.length<=n')
  (hg: ∀j (h:j<p.length),g j=jE p[j]):aD P (R.f 156) [.own 0 0 1 p.length,.str ⟨#[32]⟩] [some (.row e 1 n' g)] (.str (bytesOf (dF p))) [none] [0]:=
 zH hn (fun i hi=>⟨by rw [hg i hi];exact (dM (f:=jE) (d:=[]) hi).symm,by show (aY jE [] p i).length=1;rw [dM hi];rfl⟩) (yV L X p h1 h2)
end Go.Se
namespace Go.Se
open Go.Proofs Go.Shelf Go.RowKit
variable {P:Program}
theorem M2 {k:FuncId} {xs:List SV} {sb sb':SB} {v:SV} {σ':List (Option SB)} {d:List Nat} (h: ∀(ρ:aG) (T:Nat->Prop) (w:World) (b:Nat),eF ρ T w sb b->eF ρ T w sb' b)
  (hc:aD P k xs [some sb'] v σ' d):aD P k xs [some sb] v σ' d:=fun ρ T w vals h1 h2 h3 h4=>
 (hc ρ T w vals h1 (fun p hp=>by
  obtain ⟨s,b,e1,e2,e3,e4⟩:=h2 p hp
  obtain rfl:p=0:=by simp at hp;exact hp
  simp only [List.getElem?_cons_zero,Option.some.injEq] at e1
  subst e1
  exact ⟨sb',b,rfl,e2,e3,h _ _ _ _ e4⟩) h3 h4).mono fun x w' ⟨ρ',T',hd⟩=>⟨ρ',T',⟨hd.names,hd.only,hd.len,hd.val,hd.store,hd.fresh,hd.inj,hd.dirty,hd.grow,hd.tback,hd.below,hd.tkeep⟩⟩
def uF(p:List (List Int)):List SV:=p.map fun x=> .str (bytesOf x)
theorem xF : ∀p:List (List Int),ids.idsL (uF p)=[]
 | []=>rfl
 |_::r=>xF r
theorem EK(p:List (List Int))(j:Nat)(h:j<p.length):cut (uF p) (j*1) 1=jE p[j]:=by
 unfold cut uF
 rw [Nat.mul_one,List.drop_eq_getElem_cons (by simpa using h)]
 simp [jE]
theorem B6{R:Ren}(L:Lays.n156 P R)(X:Builder.Extra P R)(p:List (List Int))(h1:(dF p).length<=1099511627776)(h2:p.length<=1099511627776){e:Nat}:
  aD P (R.f 156) [.own 0 0 1 p.length,.str ⟨#[32]⟩] [some (.lst e (uF p))] (.str (bytesOf (dF p))) [none] [0]:=
 M2 (fun ρ T w b h=>oT (st:=1) (len:=p.length) (xF p) (by unfold uF;simp) h) (rV L X p h1 h2 (Nat.le_refl _) fun j hj=>EK p j hj)
def d7(g:Nat->List SV)(p:List (List Int)):Prop:= ∀j (h:j<p.length),g j=jE p[j]
end Go.Se
