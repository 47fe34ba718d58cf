import Derived.Test.YtghnfjfkjhbgdaaGreatDoorZE
namespace Go.Proofs.YtghnfjfkjhbgdaaGreatDoor
open Go.Se
set_option maxRecDepth 100000
abbrev aFT :FuncId:=146
def cpR :List (Nat×eI):=[(0,⟨[0,2,3],[0],[0],1,[]⟩),(2,⟨[0,2,3,4,5],[0],[0],1,[]⟩)]
def cpS(n:Nat)(X Y:Nat->Int)(k:Int):St:=⟨[(0,.own 0 0 2 n),(2,.nils),(3,.int .i64 k)],[(0,some (.row 24 2 n (aN X Y)))],1,[0],61⟩
def cpT(n k0:Nat)(X Y:Nat->Int)(k k2:Int):St:=⟨[(0,.own 0 0 2 n),(2,.nils),(3,.int .i64 k),(4,.own 0 k0 2 (n - k0)),(5,.int .i64 k2)],[(0,some (.row 24 2 n (aN X Y)))],1,[0],61⟩
noncomputable abbrev cpE :Env:=fG cpR (fun _=>0) p8 1
abbrev cpP :List Nat:=[1,1,0,1,0]
abbrev cpI :List Nat:=[1,0,0,1,0,1,0,1,0]
noncomputable abbrev cpF :Func:=Tryz.f146
theorem aB0(n:Nat)(X Y:Nat->Int)(K:KC):cL cpR (fun _=>0) p8 2 aFT [.own 0 0 2 n] [some (.row 24 2 n (aN X Y))] K=
 (Br (decide ((↑n:Int)<2)) (K (SV.own 0 0 2 n) [some (SB.row 24 2 n (aN X Y))] []) (∃q_,aV cpE (aA cpR 1) cpF cpP 0 1 K q_ {tmps:=[(0,SV.own 0 0 2 n),(2,SV.nils),(3,SV.int .i64 1)],store:=[(0,some (SB.row 24 2 n (aN X Y)))],nxt:=1,dirty:=[0],nt:=61})):=by kernel_rfl
theorem aDs(n:Nat)(X Y:Nat->Int)(k:Nat)(K:Ex->St->Prop):aF cpE (aA cpR 1) cpF cpP 0 K (cpS n X Y k)=
 (Br (decide ((↑k:Int)<(↑n:Int))) (Br (decide (0<=(↑k:Int))&&decide ((↑k:Int)<(↑n:Int))) (Br (decide (0+(↑k:Int).toNat<n)) (Br (decide (0<=IntKind.i64.wrap ((↑k:Int) - 1))&&decide (IntKind.i64.wrap ((↑k:Int) - 1)<(↑n:Int))) (Br (decide (0+(IntKind.i64.wrap ((↑k:Int) - 1)).toNat<n)) (Br (X (0+(↑k:Int).toNat)==X (0+(IntKind.i64.wrap ((↑k:Int) - 1)).toNat)&&Y (0+(↑k:Int).toNat)==Y (0+(IntKind.i64.wrap ((↑k:Int) - 1)).toNat)) (Br (decide (0<=(↑k:Int))&&(decide ((↑k:Int)<=(↑n:Int))&&decide ((↑n:Int)<=(↑n:Int)))&&decide (n<9223372036854775808)) (Br (decide ((↑k:Int)<(↑n:Int))) (∃q_,iter (aF cpE (aA cpR 1) cpF (cpP++[0]++cpI) 2) (iM cpE (aA cpR 1) cpF cpP 0 cpI K) q_ {tmps:=[(0,SV.own 0 0 2 n),(2,SV.nils),(3,SV.int .i64 (↑k:Int)),(4,SV.own 0 (0+(↑k:Int).toNat) 2 ((↑n:Int).toNat - (↑k:Int).toNat)),(5,SV.int .i64 1)],store:=[(0,some (SB.row 24 2 n (aN X Y)))],nxt:=1,dirty:=[0],nt:=61}) (∃q_,iter (aF cpE (aA cpR 1) cpF (cpP++[0]++cpI) 2) (iM cpE (aA cpR 1) cpF cpP 0 cpI K) q_ {tmps:=[(0,SV.own 0 0 2 n),(2,SV.nils),(3,SV.int .i64 (↑k:Int)),(4,SV.ro 0 2 fun (x:Nat)=>[]),(5,SV.int .i64 1)],store:=[(0,some (SB.row 24 2 n (aN X Y)))],nxt:=1,dirty:=[0],nt:=61})) (False)) (K Ex.normal {tmps:=[(0,SV.own 0 0 2 n),(2,SV.nils),(3,SV.int .i64 (IntKind.i64.wrap ((↑k:Int)+1)))],store:=[(0,some (SB.row 24 2 n (aN X Y)))],nxt:=1,dirty:=[0],nt:=61})) (False)) (False)) (False)) (False)) (K (Ex.exit 0) {tmps:=[(0,SV.own 0 0 2 n),(2,SV.nils),(3,SV.int .i64 (↑k:Int))],store:=[(0,some (SB.row 24 2 n (aN X Y)))],nxt:=1,dirty:=[0],nt:=61})):=by kernel_rfl
theorem aMl(n k0:Nat)(X Y:Nat->Int)(k k2:Nat)(K:Ex->St->Prop):aF cpE (aA cpR 1) cpF (cpP++[0]++cpI) 2 K (cpT n k0 X Y k k2)=
 (Br (decide ((↑k2:Int)<(↑(n - k0):Int))) (Br (decide (0<=(↑k2:Int))&&decide ((↑k2:Int)<(↑(n - k0):Int))) (Br (decide (k0+(↑k2:Int).toNat<n)) (Br (decide (0<=IntKind.i64.wrap ((↑k2:Int) - 1))&&decide (IntKind.i64.wrap ((↑k2:Int) - 1)<(↑(n - k0):Int))) (Br (decide (k0+(IntKind.i64.wrap ((↑k2:Int) - 1)).toNat<n)) (Br (!(X (k0+(↑k2:Int).toNat)==X (k0+(IntKind.i64.wrap ((↑k2:Int) - 1)).toNat)&&Y (k0+(↑k2:Int).toNat)==Y (k0+(IntKind.i64.wrap ((↑k2:Int) - 1)).toNat))) (Br (decide (0<=(↑k2:Int))&&decide ((↑k2:Int)<(↑(n - k0):Int))) (Br (decide (k0+(↑k2:Int).toNat<n)) (Br (decide (0<=(↑k:Int))&&decide ((↑k:Int)<(↑n:Int))) (Br (decide (0+(↑k:Int).toNat<n)) (K Ex.normal {tmps:=[(0,SV.own 0 0 2 n),(2,SV.nils),(3,SV.int .i64 (IntKind.i64.wrap ((↑k:Int)+1))),(4,SV.own 0 k0 2 (n - k0)),(5,SV.int .i64 (IntKind.i64.wrap ((↑k2:Int)+1)))],store:=[(0,some (SB.row 24 2 n (bK (0+(↑k:Int).toNat) [SV.int .i64 (X (k0+(↑k2:Int).toNat)),SV.int .i64 (Y (k0+(↑k2:Int).toNat))] (aN X Y))))],nxt:=1,dirty:=[0],nt:=61}) (False)) (False)) (False)) (False)) (K Ex.normal {tmps:=[(0,SV.own 0 0 2 n),(2,SV.nils),(3,SV.int .i64 (↑k:Int)),(4,SV.own 0 k0 2 (n - k0)),(5,SV.int .i64 (IntKind.i64.wrap ((↑k2:Int)+1)))],store:=[(0,some (SB.row 24 2 n (aN X Y)))],nxt:=1,dirty:=[0],nt:=61})) (False)) (False)) (False)) (False)) (K (Ex.exit 2) {tmps:=[(0,SV.own 0 0 2 n),(2,SV.nils),(3,SV.int .i64 (↑k:Int)),(4,SV.own 0 k0 2 (n - k0)),(5,SV.int .i64 (↑k2:Int))],store:=[(0,some (SB.row 24 2 n (aN X Y)))],nxt:=1,dirty:=[0],nt:=61})):=by kernel_rfl
theorem aHe(n k0:Nat)(X Y:Nat->Int)(k k2:Nat)(K:Ex->St->Prop):iM cpE (aA cpR 1) cpF cpP 0 cpI K (.exit 2) (cpT n k0 X Y k k2)=
 (Br (decide (0<=(↑k:Int))&&(decide ((↑k:Int)<=(↑n:Int))&&decide ((↑n:Int)<=(↑n:Int)))&&decide (n<9223372036854775808)) (Br (decide ((↑k:Int)<(↑n:Int))) (Br (true&&(decide (0<=(↑k:Int))&&decide ((↑k:Int)<=(↑n:Int)))&&decide (n<9223372036854775808)) (Br (decide (0<(↑k:Int))) (K Ex.ret {tmps:=[(0,SV.own 0 0 2 n),(2,SV.own 0 0 2 ((↑k:Int).toNat - 0)),(3,SV.int .i64 (↑k:Int))],store:=[(0,none)],nxt:=1,dirty:=[0],nt:=61}) (K Ex.ret {tmps:=[(0,SV.own 0 0 2 n),(2,SV.ro 0 2 fun (x:Nat)=>[]),(3,SV.int .i64 (↑k:Int))],store:=[(0,none)],nxt:=1,dirty:=[0],nt:=61})) (False)) (Br (true&&(decide (0<=(↑k:Int))&&decide ((↑k:Int)<=(↑n:Int)))&&decide (n<9223372036854775808)) (Br (decide (0<(↑k:Int))) (K Ex.ret {tmps:=[(0,SV.own 0 0 2 n),(2,SV.own 0 0 2 ((↑k:Int).toNat - 0)),(3,SV.int .i64 (↑k:Int))],store:=[(0,some (SB.row 24 2 n (aN X Y)))],nxt:=1,dirty:=[0],nt:=61}) (K Ex.ret {tmps:=[(0,SV.own 0 0 2 n),(2,SV.ro 0 2 fun (x:Nat)=>[]),(3,SV.int .i64 (↑k:Int))],store:=[(0,some (SB.row 24 2 n (aN X Y)))],nxt:=1,dirty:=[0],nt:=61})) (False))) (False)):=by kernel_rfl
theorem aCV(n:Nat)(X Y:Nat->Int)(k:Nat)(K:KC):aB cpE (aA cpR 1) cpF cpP 1 K (.exit 0) (cpS n X Y k)=
 (K (SV.own 0 0 2 n) [some (SB.row 24 2 n (aN X Y))] [0]):=by kernel_rfl
theorem aKM(n m:Nat)(k:Int)(K:KC):aB cpE (aA cpR 1) cpF cpP 1 K .ret ⟨[(0,.own 0 0 2 n),(2,.own 0 0 2 m),(3,.int .i64 k)],[(0,none)],1,[0],61⟩=K (.own 0 0 2 m) [none] [0]:=by kernel_rfl
theorem aB9 (n k0:Nat) (hn:n<9223372036854775808) (hk0:1<=k0) (K:Ex->St->Prop)
  (hK: ∀m,m<n->K .ret ⟨[(0,.own 0 0 2 n),(2,.own 0 0 2 m),(3,.int .i64 m)],[(0,none)],1,[0],61⟩):
  ∀(f:Nat) (a:Nat×Nat×(Nat->Int)×(Nat->Int)),((k0<=a.1/\a.1<k0+a.2.1)/\1<=a.2.1/\a.2.1<=n - k0)->n - k0 - a.2.1<f->
   iter (aF cpE (aA cpR 1) cpF (cpP++[0]++cpI) 2) (iM cpE (aA cpR 1) cpF cpP 0 cpI K) f (cpT n k0 a.2.2.1 a.2.2.2 a.1 a.2.1):=
 iH (fun a:Nat×Nat×(Nat->Int)×(Nat->Int)=>cpT n k0 a.2.2.1 a.2.2.2 a.1 a.2.1) (fun a=>n - k0 - a.2.1) (fun a=>(k0<=a.1/\a.1<k0+a.2.1)/\1<=a.2.1/\a.2.1<=n - k0)
  (fun a=>by
   obtain ⟨k,k2,X,Y⟩:=a
   rintro ⟨⟨h1,h2⟩,h3,h4⟩ Z hZ
   simp only at h1 h2 h3 h4
   show aF cpE (aA cpR 1) cpF (cpP++[0]++cpI) 2 _ (cpT n k0 X Y k k2)
   rw [aMl,rS h3 (by omega)]
   simp only [am,bi]
   refine Br.of (fun c1=> ?_) fun c1=> ?_
   ·have c1':=aa c1
    refine Br.of (fun _=>Br.of (fun _=>Br.of (fun _=>Br.of (fun _=>Br.of (fun _=>Br.of (fun _=>Br.of (fun _=>Br.of (fun _=>Br.of (fun _=> ?_) fun c=> ?_) fun c=> ?_) fun c=> ?_) fun c=> ?_) fun _=> ?_) fun c=> ?_) fun c=> ?_) fun c=> ?_) fun c=> ?_
    ·show Z _
     rw [TE,aK (n:=n) (by omega) hn,aK (n:=n) (by omega) hn]
     exact hZ (k+1,k2+1,_,_) ⟨⟨by show k0<=k+1;omega,by show k+1<k0+(k2+1);omega⟩,by show 1<=k2+1;omega,by show k2+1<=n - k0;omega⟩ (by show n - k0 - (k2+1)<n - k0 - k2;omega)
    ·have:=ae c;omega
    ·simp only [bf,aw] at c;omega
    ·have:=ae c;omega
    ·simp only [bf,aw] at c;omega
    ·show Z _
     rw [aK (n:=n) (by omega) hn]
     exact hZ (k,k2+1,X,Y) ⟨⟨h1,by show k<k0+(k2+1);omega⟩,by show 1<=k2+1;omega,by show k2+1<=n - k0;omega⟩ (by show n - k0 - (k2+1)<n - k0 - k2;omega)
    ·have:=ae c;omega
    ·simp only [bf,aw] at c;omega
    ·have:=ae c;omega
    ·simp only [bf,aw] at c;omega
   ·have c1':=ae c1
    show iM cpE (aA cpR 1) cpF cpP 0 cpI K (.exit 2) (cpT n k0 X Y k k2)
    rw [aHe]
    simp only [am,dk]
    refine Br.of (fun _=>Br.of (fun _=>Br.of (fun _=>Br.of (fun _=>hK k (by omega)) fun c=> ?_) fun c=> ?_) fun c=> ?_) fun c=> ?_
    ·have:=ae c;omega
    ·simp only [ch,bf,aw] at c;omega
    ·have:=ae c;omega
    ·simp only [bf,aw] at c;omega)
def zA(n:Nat)(X Y:Nat->Int)(K:KC):Prop:=
 Br (FH X Y n) (∀m,m<n->K (.own 0 0 2 m) [none] [0]) (K (.own 0 0 2 n) [some (.row 24 2 n (aN X Y))] [0])
theorem aLg(n:Nat)(X Y:Nat->Int)(hn:n<9223372036854775808)(h2:2<=n)(K:KC)(hK:zA n X Y K):cL cpR (fun _=>0) p8 2 aFT [.own 0 0 2 n] [some (.row 24 2 n (aN X Y))] K:=by
 rw [aB0]
 unfold zA at hK
 refine Br.of (fun c=>absurd (aa c) (by omega)) fun _=>⟨n+1, ?_⟩
 refine iH (fun k:Nat=>cpS n X Y k) (fun k=>n - k) (fun k=>(1<=k/\k<=n)/\ ∀j,j+1<k->QW X Y j=false) (fun k ⟨⟨h1,h3⟩,h4⟩ Z hZ=> ?_) (n+1) 1 ⟨⟨by omega,by omega⟩,fun j hj=>by omega⟩ (by omega)
 show aF cpE (aA cpR 1) cpF cpP 0 _ (cpS n X Y k)
 rw [aDs,rS h1 (by omega)]
 simp only [am,bi]
 refine Br.of (fun c1=> ?_) fun c1=> ?_
 ·have c1':=aa c1
  have hs:(X k==X (k - 1)&&Y k==Y (k - 1))=QW X Y (k - 1):=by unfold QW;rw [Nat.sub_add_cancel h1]
  rw [hs]
  refine Br.of (fun _=>Br.of (fun _=>Br.of (fun _=>Br.of (fun _=>Br.of (fun c2=>Br.of (fun _=>Br.of (fun _=> ?_) fun c=> ?_) fun c=> ?_) fun c2=> ?_) fun c=> ?_) fun c=> ?_) fun c=> ?_) fun c=> ?_
  ·refine ⟨n+1, ?_⟩
   rw [show FH X Y n=true from iS.2 ⟨k - 1,by omega,c2⟩] at hK
   exact aB9 n k hn h1 _ (fun m hm=>by
    show aB cpE (aA cpR 1) cpF cpP 1 K .ret _
    rw [aKM];exact hK m hm) (n+1) (k,1,X,Y) ⟨⟨av _,by show k<k+1;omega⟩,av _,by show 1<=n - k;omega⟩ (by omega)
  ·have:=ae c;omega
  ·simp only [bf,aw] at c;omega
  ·show Z _
   rw [aK (n:=n) (by omega) hn]
   refine hZ (k+1) ⟨⟨by omega,by omega⟩,fun j hj=> ?_⟩ (by omega)
   rcases ia (Nat.le_of_lt_succ hj) with hj|hj
   ·exact h4 j hj
   ·rw [show j=k - 1 by omega];exact c2
  ·have:=ae c;omega
  ·simp only [bf,aw] at c;omega
  ·have:=ae c;omega
  ·simp only [bf,aw] at c;omega
 ·have c1':=ae c1
  show aB cpE (aA cpR 1) cpF cpP 1 K (.exit 0) (cpS n X Y k)
  rw [aCV]
  rw [show FH X Y n=false from e9.2 fun j hj=>h4 j (by omega)] at hK
  exact hK
def EU :List SV->List (Option SB)->KC->Prop
 | [.own 0 0 2 n],[some (.row 24 2 n' g)],K=>(pts g/\n'=n/\2<=n)/\zA n (fun i=>px (g i)) (fun i=>py (g i)) K
 |_,_,_=>False
theorem P7(xs:List SV)(σ:List (Option SB)):Sat Tryz.prog aFT xs σ (EU xs σ):=by
 refine pM (fun K hK=> ?_) fun hx _ K hK=> ?_<;>unfold EU at hK<;>split at hK
 ·obtain ⟨⟨_,_,h⟩,hK⟩:=hK
  unfold zA at hK
  revert hK
  generalize FH _ _ _=b
  intro hK
  cases b
  ·exact ⟨_,_,_,hK⟩
  ·exact ⟨_,_,_,hK 0 (by omega)⟩
 ·exact hK.elim
 ·rename_i n n' g _
  obtain ⟨⟨hp,rfl,h⟩,hK⟩:=hK
  have:=aLg n' (fun i=>px (g i)) (fun i=>py (g i)) hx.1 h K hK
  rw [<- rO hp] at this
  exact bS (env:=tab.env p8 (fun _=>0) (fun _=>false)) ⟨tab.htt,p8.ok⟩ tab.mixed (fun n=>aY n cpR) tab.hft 2 _ _ _ K this
 ·exact hK.elim
theorem aAT(n:Nat)(X Y:Nat->Int)(K:KC):run p8 3 142 [.ro n 2 (aN X Y)] [] K=
 (Br (decide ((↑n:Int)<3)) (K (SV.int .i64 42) [] []) (Br (decide ((↑n:Int)>64)) (K (SV.int .i64 42) [] []) ((pts (aN X Y))/\(Br (decide (mD (fun (i:Nat)=>nF (px (aN X Y i)) (py (aN X Y i))) n 0>=0)) (K (SV.int .i64 40) [] []) (K (SV.int .i64 0) [] []))))):=by kernel_rfl
theorem YA(n:Nat)(X Y:Nat->Int):aE Tryz.prog 142 [.ro n 2 (aN X Y)] [] (.int .i64 (jY n X Y)) [] []:=
 aS p8 3 fun _ _ K hK=>by
  rw [aAT]
  unfold jY at hK
  refine Br.of (fun c=> ?_) fun c=>Br.of (fun c2=> ?_) fun c2=>⟨fun _=>rfl,Br.of (fun c3=> ?_) fun c3=> ?_⟩
  ·rw [c] at hK;exact hK
  ·rw [c,c2] at hK;exact hK
  ·have c3':dO (fun i=>nF (X i) (Y i)) n=true:=c3
   rw [c,c2,c3'] at hK;exact hK
  ·have c3':dO (fun i=>nF (X i) (Y i)) n=false:=c3
   rw [c,c2,c3'] at hK;exact hK
def wY :List SV->List (Option SB)->KC->Prop
 | [.ro n 2 g],[],K=>pts g/\K (.int .i64 (jY n (fun i=>px (g i)) (fun i=>py (g i)))) [] []
 |_,_,_=>False
theorem RL(xs:List SV)(σ:List (Option SB)):Sat Tryz.prog 142 xs σ (wY xs σ):=by
 intro K hK
 unfold wY at hK
 split at hK
 ·obtain ⟨hp,hK⟩:=hK
  refine ⟨_,_,_,hK, ?_⟩
  rw [rO hp];exact YA _ _ _
 ·exact hK.elim
noncomputable def p9 :bT Tryz.prog:=(((p8).add aFT EU P7).add 142 wY RL).add 141 aEg aEr
theorem XY(t:Trk)(K:KC):run p9 4 98 [.agg (aI t)] [] K=
 (Br (decide (60<=t.rate)) (Br (!decide (t.rate<=1024)) (K (SV.iface 91 (SV.ptr 0 0)) [some (SB.cells 98 [SV.int .i64 40,SV.int .i64 0])] []) ((iX (aP t.h) (aP t.g) (fH t) (bA t.lx t.ly) (bN t) (fB t))/\(Br (iQ t==0) ((pts (bA t.lx t.ly))/\(Br ((jY t.nl (fun (i:Nat)=>px (bA t.lx t.ly i)) fun (i:Nat)=>py (bA t.lx t.ly i)) !=0) (K (SV.iface 91 (SV.ptr 0 0)) [some (SB.cells 98 [SV.int .i64 (jY t.nl (fun (i:Nat)=>px (bA t.lx t.ly i)) fun (i:Nat)=>py (bA t.lx t.ly i)),SV.int .i64 0])] []) ((pts (bA t.lx t.ly))/\(Br (!decide (mD (fun (i:Nat)=>jG (px (bA t.lx t.ly i)) (py (bA t.lx t.ly i))) t.nl 0>=0)) (K SV.nilI [] []) (K (SV.iface 91 (SV.ptr 0 0)) [some (SB.cells 98 [SV.int .i64 40,SV.int .i64 0])] []))))) (Br (iQ t !=0) (K (SV.iface 91 (SV.ptr 0 0)) [some (SB.cells 98 [SV.int .i64 (iQ t),SV.int .i64 0])] []) ((pts (bA t.lx t.ly))/\(Br ((jY t.nl (fun (i:Nat)=>px (bA t.lx t.ly i)) fun (i:Nat)=>py (bA t.lx t.ly i)) !=0) (K (SV.iface 91 (SV.ptr 0 0)) [some (SB.cells 98 [SV.int .i64 (jY t.nl (fun (i:Nat)=>px (bA t.lx t.ly i)) fun (i:Nat)=>py (bA t.lx t.ly i)),SV.int .i64 0])] []) ((pts (bA t.lx t.ly))/\(Br (!decide (mD (fun (i:Nat)=>jG (px (bA t.lx t.ly i)) (py (bA t.lx t.ly i))) t.nl 0>=0)) (K SV.nilI [] []) (K (SV.iface 91 (SV.ptr 0 0)) [some (SB.cells 98 [SV.int .i64 40,SV.int .i64 0])] []))))))))) (K (SV.iface 91 (SV.ptr 0 0)) [some (SB.cells 98 [SV.int .i64 40,SV.int .i64 0])] [])):=by kernel_rfl
def sV(c:Int×Int)(K:KC):Prop:=Br (c.1==0) (K .nilI [] []) (K (.iface 91 (.ptr 0 0)) [some (.cells 98 [.int .i64 c.1,.int .i64 c.2])] [])
theorem aIa{x:Int}(h:(x !=0)=true):(x==0)=false:=by rw [ei] at h;exact beq_false_of_ne h
theorem M4{x:Int}(h:(x !=0)=false):x=0:=by
 by_cases hx:x=0
 ·exact hx
 ·rw [ei.2 hx] at h;cases h
theorem SI(t:Trk)(K:KC)(hK:sV (fT t,0) K):run p9 4 98 [.agg (aI t)] [] K:=by
 rw [XY]
 unfold sV fT IC at hK
 refine Br.of (fun c=>Br.of (fun c1=> ?_) fun c1=>⟨fZ t, ?_⟩) fun c=> ?_
 ·rw [c,show decide (t.rate<=1024)=false by rw [dg] at c1;exact c1] at hK;exact hK
 ·rw [c,show decide (t.rate<=1024)=true by rw [dr] at c1;exact c1] at hK
  simp only [Bool.and_self,eb,ap] at hK
  refine Br.of (fun c2=> ?_) fun c2=>Br.of (fun c3=> ?_) fun c3=> ?_
  ·have c2':=eq_of_beq c2
   rw [c2'] at hK
   simp only [bne_self_eq_false,ap] at hK
   refine ⟨fun _=>rfl,Br.of (fun c4=> ?_) fun c4=>⟨fun _=>rfl,Br.of (fun c5=> ?_) fun c5=> ?_⟩⟩
   ·have c4':(jY t.nl t.lx t.ly !=0)=true:=c4
    rw [c4'] at hK
    simp only [ar] at hK
    rw [aIa c4'] at hK
    exact hK
   ·have c4':(jY t.nl t.lx t.ly !=0)=false:=c4
    have c5':zP t=false:=by rw [dg] at c5;exact c5
    rw [c4',c5'] at hK
    exact hK
   ·have c4':(jY t.nl t.lx t.ly !=0)=false:=c4
    have c5':zP t=true:=by rw [dr] at c5;exact c5
    rw [c4',c5'] at hK
    exact hK
  ·rw [c3] at hK
   simp only [ar] at hK
   rw [c2] at hK
   exact hK
  ·rw [M4 c3] at c2;cases c2
 ·rw [c] at hK;exact hK
def CK :List (Nat×eI):=[(0,⟨[1,2,13,14,15],[0,1],[1,2,3,4,5],2,[(2,1)]⟩)]
def aBY(t:Trk)(i:Int):St:=⟨[(1,.ptr 0 0),(2,.nilI),(13,.ro t.nr 1 (bN t)),(14,.int .i64 t.nr),(15,.int .i64 i)],[(0,some (.cells 34 (aI t))),(1,none)],2,[1,2,3,4,5],49⟩
def aKk(t:Trk)(c i:Int):St:=⟨[(1,.ptr 0 0),(2,.iface 91 (.ptr 1 0)),(13,.ro t.nr 1 (bN t)),(14,.int .i64 t.nr),(15,.int .i64 i)],[(0,some (.cells 34 (aI t))),(1,some (.cells 98 [.int .i64 c,.int .i64 i]))],2,[1,2,3,4,5],49⟩
noncomputable abbrev MV :Env:=fG CK (fun _=>0) p9 3
noncomputable abbrev M7 :Func:=Tryz.f99
abbrev xB :List Nat:=[1,1,0,1,0]
theorem aAt(t:Trk)(K:KC):cL CK (fun _=>0) p9 4 99 [.agg (aI t)] [] K=
 (Br (decide ((↑t.nr:Int)>16)) (K (SV.iface 91 (SV.ptr 0 0)) [some (SB.cells 98 [SV.int .i64 42,SV.int .i64 0])] []) (∃q_,aV MV (aA CK 0) M7 xB 0 0 K q_ {tmps:=[(1,SV.ptr 0 0),(2,SV.nilI),(13,SV.ro t.nr 1 (bN t)),(14,SV.int .i64 (↑t.nr:Int)),(15,SV.int .i64 0)],store:=[(0,some (SB.cells 34 (aI t))),(1,none)],nxt:=2,dirty:=[1,2,3,4,5],nt:=49})):=by kernel_rfl
theorem HX(t:Trk)(i:Nat)(K:Ex->St->Prop):aF MV (aA CK 0) M7 xB 0 K (aBY t i)=
 (Br (decide ((↑i:Int)<(↑t.nr:Int))) (Br (decide (0<=(↑i:Int))&&decide ((↑i:Int)<(↑t.nr:Int))) (Br (decide (2<=(↑(t.rn (↑i:Int).toNat):Int))) (Br (!decide ((↑(t.rn (↑i:Int).toNat):Int)<=64)) (K Ex.ret {tmps:=[(1,SV.ptr 0 0),(2,SV.iface 91 (SV.ptr 1 0)),(13,SV.ro t.nr 1 (bN t)),(14,SV.int .i64 (↑t.nr:Int)),(15,SV.int .i64 (↑i:Int))],store:=[(0,some (SB.cells 34 (aI t))),(1,some (SB.cells 98 [SV.int .i64 42,SV.int .i64 (↑i:Int)]))],nxt:=2,dirty:=[1,2,3,4,5],nt:=49}) ((pts (bA (t.rx (↑i:Int).toNat) (t.ry (↑i:Int).toNat)))/\(Br (decide (mD (fun (i_1:Nat)=>jG (px (bA (t.rx (↑i:Int).toNat) (t.ry (↑i:Int).toNat) i_1)) (py (bA (t.rx (↑i:Int).toNat) (t.ry (↑i:Int).toNat) i_1))) (t.rn (↑i:Int).toNat) 0>=0)) (K Ex.ret {tmps:=[(1,SV.ptr 0 0),(2,SV.iface 91 (SV.ptr 1 0)),(13,SV.ro t.nr 1 (bN t)),(14,SV.int .i64 (↑t.nr:Int)),(15,SV.int .i64 (↑i:Int))],store:=[(0,some (SB.cells 34 (aI t))),(1,some (SB.cells 98 [SV.int .i64 40,SV.int .i64 (↑i:Int)]))],nxt:=2,dirty:=[1,2,3,4,5],nt:=49}) ((pts (bA (t.rx (↑i:Int).toNat) (t.ry (↑i:Int).toNat)))/\((0<t.rn (↑i:Int).toNat/\t.rn (↑i:Int).toNat<=1000000)/\((pts (bA (t.rx (↑i:Int).toNat) (t.ry (↑i:Int).toNat))/\t.rn (↑i:Int).toNat=t.rn (↑i:Int).toNat/\2<=t.rn (↑i:Int).toNat)/\(Br (FH (fun (i_1:Nat)=>px (bA (t.rx (↑i:Int).toNat) (t.ry (↑i:Int).toNat) i_1)) (fun (i_1:Nat)=>py (bA (t.rx (↑i:Int).toNat) (t.ry (↑i:Int).toNat) i_1)) (t.rn (↑i:Int).toNat)) (∀(m:Nat),∀(_:m<t.rn (↑i:Int).toNat),Br (decide ((↑m:Int)<(↑(t.rn (↑i:Int).toNat):Int))) (K Ex.ret {tmps:=[(1,SV.ptr 0 0),(2,SV.iface 91 (SV.ptr 1 0)),(13,SV.ro t.nr 1 (bN t)),(14,SV.int .i64 (↑t.nr:Int)),(15,SV.int .i64 (↑i:Int))],store:=[(0,some (SB.cells 34 (aI t))),(1,some (SB.cells 98 [SV.int .i64 43,SV.int .i64 (↑i:Int)]))],nxt:=2,dirty:=[1,2,3,4,5],nt:=49}) (K Ex.normal {tmps:=[(1,SV.ptr 0 0),(2,SV.nilI),(13,SV.ro t.nr 1 (bN t)),(14,SV.int .i64 (↑t.nr:Int)),(15,SV.int .i64 (IntKind.i64.wrap ((↑i:Int)+1)))],store:=[(0,some (SB.cells 34 (aI t))),(1,none)],nxt:=2,dirty:=[1,2,3,4,5],nt:=49})) (Br (decide ((↑(t.rn (↑i:Int).toNat):Int)<(↑(t.rn (↑i:Int).toNat):Int))) (K Ex.ret {tmps:=[(1,SV.ptr 0 0),(2,SV.iface 91 (SV.ptr 1 0)),(13,SV.ro t.nr 1 (bN t)),(14,SV.int .i64 (↑t.nr:Int)),(15,SV.int .i64 (↑i:Int))],store:=[(0,some (SB.cells 34 (aI t))),(1,some (SB.cells 98 [SV.int .i64 43,SV.int .i64 (↑i:Int)]))],nxt:=2,dirty:=[1,2,3,4,5],nt:=49}) (K Ex.normal {tmps:=[(1,SV.ptr 0 0),(2,SV.nilI),(13,SV.ro t.nr 1 (bN t)),(14,SV.int .i64 (↑t.nr:Int)),(15,SV.int .i64 (IntKind.i64.wrap ((↑i:Int)+1)))],store:=[(0,some (SB.cells 34 (aI t))),(1,none)],nxt:=2,dirty:=[1,2,3,4,5],nt:=49}))))))))) (K Ex.ret {tmps:=[(1,SV.ptr 0 0),(2,SV.iface 91 (SV.ptr 1 0)),(13,SV.ro t.nr 1 (bN t)),(14,SV.int .i64 (↑t.nr:Int)),(15,SV.int .i64 (↑i:Int))],store:=[(0,some (SB.cells 34 (aI t))),(1,some (SB.cells 98 [SV.int .i64 42,SV.int .i64 (↑i:Int)]))],nxt:=2,dirty:=[1,2,3,4,5],nt:=49})) (False)) (K (Ex.exit 0) {tmps:=[(1,SV.ptr 0 0),(2,SV.nilI),(13,SV.ro t.nr 1 (bN t)),(14,SV.int .i64 (↑t.nr:Int)),(15,SV.int .i64 (↑i:Int))],store:=[(0,some (SB.cells 34 (aI t))),(1,none)],nxt:=2,dirty:=[1,2,3,4,5],nt:=49})):=by kernel_rfl
theorem aHF(t:Trk)(c i:Int)(K:KC):aB MV (aA CK 0) M7 xB 0 K .ret (aKk t c i)=
 (K (SV.iface 91 (SV.ptr 0 0)) [some (SB.cells 98 [SV.int .i64 c,SV.int .i64 i])] []):=by kernel_rfl
theorem YF(t:Trk)(i:Int)(K:KC):aB MV (aA CK 0) M7 xB 0 K (.exit 0) (aBY t i)=
 (K SV.nilI [] []):=by kernel_rfl
theorem WY{c:Nat->Int}{n i:Nat}{v:Int}{K:KC}(hK:sV (qK c (n - i) i) K)(hi:i<n)(h:c i=v)(hv:(v !=0)=true):K (.iface 91 (.ptr 0 0)) [some (.cells 98 [.int .i64 v,.int .i64 i])] []:=by
 rw [VV hi h hv] at hK
 unfold sV at hK
 rw [aIa hv] at hK
 exact hK
theorem aAs(t:Trk)(hn:t.nr<9223372036854775808)(K:KC)(hK:sV (nH t) K):cL CK (fun _=>0) p9 4 99 [.agg (aI t)] [] K:=by
 rw [aAt]
 unfold nH at hK
 refine Br.of (fun c=> ?_) fun c=> ?_
 ·rw [c] at hK;exact hK
 rw [c] at hK
 simp only [ap] at hK
 refine ⟨t.nr+1,j8 (fun i:Nat=>aBY t i) t.nr (fun i=>sV (qK (yP t) (t.nr - i) i) K) (fun i hi hI X hX=> ?_) (fun hI X=> ?_) hK⟩
 ·have hret: ∀v,yP t i=v->(v !=0)=true->gM X (aB MV (aA CK 0) M7 xB 0 K) .ret (aKk t v i):=fun v h1 h2=>by
   show aB MV (aA CK 0) M7 xB 0 K .ret (aKk t v i)
   rw [aHF]
   exact WY hI hi h1 h2
  have hnext:yP t i=0->gM X (aB MV (aA CK 0) M7 xB 0 K) .normal (aBY t (i+1:Nat)):=fun h=>hX (by rw [zI hi h] at hI;exact hI)
  rw [HX,aK hi hn]
  simp only [am]
  unfold yP at hret hnext
  refine Br.of (fun _=>Br.of (fun _=>Br.of (fun c1=>Br.of (fun c2=>hret 42 ?_ rfl) fun c2=>⟨fun _=>rfl,Br.of (fun c3=>hret 40 ?_ rfl) fun c3=>⟨fun _=>rfl, ?_, ?_, ?_⟩⟩) fun c1=>hret 42 ?_ rfl) fun c=> ?_) fun c=> ?_
  ·rw [c1,show decide ((t.rn i:Int)<=64)=false by rw [dg] at c2;exact c2];rfl
  ·have c3':dO (fun k=>jG (t.rx i k) (t.ry i k)) (t.rn i)=true:=c3
   rw [c1,show decide ((t.rn i:Int)<=64)=true by rw [dr] at c2;exact c2,c3'];rfl
  ·have:=aa c1
   rw [dr] at c2
   have:=aa c2
   omega
  ·have:=aa c1
   exact ⟨fun _=>rfl,by trivial,by omega⟩
  ·have c3':dO (fun k=>jG (t.rx i k) (t.ry i k)) (t.rn i)=false:=c3
   rw [c1,show decide ((t.rn i:Int)<=64)=true by rw [dr] at c2;exact c2,c3'] at hret hnext
   refine Br.of (fun c4 m hm=>Br.of (fun _=> ?_) fun c=> ?_) fun c4=>Br.of (fun c=> ?_) fun _=> ?_
   ·have c4':FH (t.rx i) (t.ry i) (t.rn i)=true:=c4
    exact hret 43 (by rw [c4'];rfl) rfl
   ·have:=ae c;omega
   ·have:=aa c;omega
   ·have c4':FH (t.rx i) (t.ry i) (t.rn i)=false:=c4
    exact hnext (by rw [c4'];rfl)
  ·rw [c1];rfl
  ·simp only [bf,aw] at c;omega
  ·have:=ae c;omega
 ·rw [HX]
  refine Br.of (fun c=>absurd (aa c) (by omega)) fun _=> ?_
  show aB MV (aA CK 0) M7 xB 0 K (.exit 0) (aBY t t.nr)
  rw [YF]
  rw [Nat.sub_self] at hI
  exact hI
def CV :List (Nat×eI):=[(0,⟨[1,2,14,15,16],[0,1],[1,2,3,4,5],2,[(2,1)]⟩)]
def aFf(t:Trk)(i:Int):St:=⟨[(1,.ptr 0 0),(2,.nilI),(14,.ro t.nt 5 (fB t)),(15,.int .i64 t.nt),(16,.int .i64 i)],[(0,some (.cells 34 (aI t))),(1,none)],2,[1,2,3,4,5],45⟩
def aKL(t:Trk)(c i:Int):St:=⟨[(1,.ptr 0 0),(2,.iface 91 (.ptr 1 0)),(14,.ro t.nt 5 (fB t)),(15,.int .i64 t.nt),(16,.int .i64 i)],[(0,some (.cells 34 (aI t))),(1,some (.cells 98 [.int .i64 c,.int .i64 i]))],2,[1,2,3,4,5],45⟩
noncomputable abbrev RC :Env:=fG CV (fun _=>0) p9 3
noncomputable abbrev PT :Func:=Tryz.f100
theorem aAX(t:Trk)(K:KC):cL CV (fun _=>0) p9 4 100 [.agg (aI t)] [] K=
 (Br (decide (1<=(↑t.nt:Int))) (Br (!decide ((↑t.nt:Int)<=16)) (K (SV.iface 91 (SV.ptr 0 0)) [some (SB.cells 98 [SV.int .i64 42,SV.int .i64 0])] []) (∃q_,aV RC (aA CV 0) PT xB 0 0 K q_ {tmps:=[(1,SV.ptr 0 0),(2,SV.nilI),(14,SV.ro t.nt 5 (fB t)),(15,SV.int .i64 (↑t.nt:Int)),(16,SV.int .i64 0)],store:=[(0,some (SB.cells 34 (aI t))),(1,none)],nxt:=2,dirty:=[1,2,3,4,5],nt:=45})) (K (SV.iface 91 (SV.ptr 0 0)) [some (SB.cells 98 [SV.int .i64 42,SV.int .i64 0])] [])):=by kernel_rfl
theorem IW(t:Trk)(i:Nat)(K:Ex->St->Prop):aF RC (aA CV 0) PT xB 0 K (aFf t i)=
 (Br (decide ((↑i:Int)<(↑t.nt:Int))) (Br (decide (0<=(↑i:Int))&&decide ((↑i:Int)<(↑t.nt:Int))) (Br (jG (t.ax (↑i:Int).toNat) (t.ay (↑i:Int).toNat)) (K Ex.ret {tmps:=[(1,SV.ptr 0 0),(2,SV.iface 91 (SV.ptr 1 0)),(14,SV.ro t.nt 5 (fB t)),(15,SV.int .i64 (↑t.nt:Int)),(16,SV.int .i64 (↑i:Int))],store:=[(0,some (SB.cells 34 (aI t))),(1,some (SB.cells 98 [SV.int .i64 40,SV.int .i64 (↑i:Int)]))],nxt:=2,dirty:=[1,2,3,4,5],nt:=45}) (Br (jG (t.bx (↑i:Int).toNat) (t.sb (↑i:Int).toNat)) (K Ex.ret {tmps:=[(1,SV.ptr 0 0),(2,SV.iface 91 (SV.ptr 1 0)),(14,SV.ro t.nt 5 (fB t)),(15,SV.int .i64 (↑t.nt:Int)),(16,SV.int .i64 (↑i:Int))],store:=[(0,some (SB.cells 34 (aI t))),(1,some (SB.cells 98 [SV.int .i64 40,SV.int .i64 (↑i:Int)]))],nxt:=2,dirty:=[1,2,3,4,5],nt:=45}) (Br (t.ax (↑i:Int).toNat==t.bx (↑i:Int).toNat&&t.ay (↑i:Int).toNat==t.sb (↑i:Int).toNat) (K Ex.ret {tmps:=[(1,SV.ptr 0 0),(2,SV.iface 91 (SV.ptr 1 0)),(14,SV.ro t.nt 5 (fB t)),(15,SV.int .i64 (↑t.nt:Int)),(16,SV.int .i64 (↑i:Int))],store:=[(0,some (SB.cells 34 (aI t))),(1,some (SB.cells 98 [SV.int .i64 43,SV.int .i64 (↑i:Int)]))],nxt:=2,dirty:=[1,2,3,4,5],nt:=45}) (K Ex.normal {tmps:=[(1,SV.ptr 0 0),(2,SV.nilI),(14,SV.ro t.nt 5 (fB t)),(15,SV.int .i64 (↑t.nt:Int)),(16,SV.int .i64 (IntKind.i64.wrap ((↑i:Int)+1)))],store:=[(0,some (SB.cells 34 (aI t))),(1,none)],nxt:=2,dirty:=[1,2,3,4,5],nt:=45})))) (False)) (K (Ex.exit 0) {tmps:=[(1,SV.ptr 0 0),(2,SV.nilI),(14,SV.ro t.nt 5 (fB t)),(15,SV.int .i64 (↑t.nt:Int)),(16,SV.int .i64 (↑i:Int))],store:=[(0,some (SB.cells 34 (aI t))),(1,none)],nxt:=2,dirty:=[1,2,3,4,5],nt:=45})):=by kernel_rfl
theorem aFR(t:Trk)(c i:Int)(K:KC):aB RC (aA CV 0) PT xB 0 K .ret (aKL t c i)=
 (K (SV.iface 91 (SV.ptr 0 0)) [some (SB.cells 98 [SV.int .i64 c,SV.int .i64 i])] []):=by kernel_rfl
theorem YD(t:Trk)(i:Int)(K:KC):aB RC (aA CV 0) PT xB 0 K (.exit 0) (aFf t i)=
 (K SV.nilI [] []):=by kernel_rfl
theorem aBb(t:Trk)(hn:t.nt<9223372036854775808)(K:KC)(hK:sV (oY t) K):cL CV (fun _=>0) p9 4 100 [.agg (aI t)] [] K:=by
 rw [aAX]
 unfold oY at hK
 refine Br.of (fun c=>Br.of (fun c1=> ?_) fun c1=> ?_) fun c=> ?_
 ·rw [c,show decide ((t.nt:Int)<=16)=false by rw [dg] at c1;exact c1] at hK;exact hK
 ·rw [c,show decide ((t.nt:Int)<=16)=true by rw [dr] at c1;exact c1] at hK
  simp only [Bool.and_self,eb,ap] at hK
  refine ⟨t.nt+1,j8 (fun i:Nat=>aFf t i) t.nt (fun i=>sV (qK (EA t) (t.nt - i) i) K) (fun i hi hI X hX=> ?_) (fun hI X=> ?_) hK⟩
  ·have hret: ∀v,EA t i=v->(v !=0)=true->gM X (aB RC (aA CV 0) PT xB 0 K) .ret (aKL t v i):=fun v h1 h2=>by
    show aB RC (aA CV 0) PT xB 0 K .ret (aKL t v i)
    rw [aFR]
    exact WY hI hi h1 h2
   have hnext:EA t i=0->gM X (aB RC (aA CV 0) PT xB 0 K) .normal (aFf t (i+1:Nat)):=fun h=>hX (by rw [zI hi h] at hI;exact hI)
   rw [IW,aK hi hn]
   simp only [am]
   unfold EA at hret hnext
   refine Br.of (fun _=>Br.of (fun _=>Br.of (fun c1=>hret 40 ?_ rfl) fun c1=>Br.of (fun c2=>hret 40 ?_ rfl) fun c2=>Br.of (fun c3=>hret 43 ?_ rfl) fun c3=>hnext ?_) fun c=> ?_) fun c=> ?_
   ·rw [c1];rfl
   ·rw [c1,c2];rfl
   ·rw [c1,c2,c3];rfl
   ·rw [c1,c2,c3];rfl
   ·simp only [bf,aw] at c;omega
   ·have:=ae c;omega
  ·rw [IW]
   refine Br.of (fun c=>absurd (aa c) (by omega)) fun _=> ?_
   show aB RC (aA CV 0) PT xB 0 K (.exit 0) (aFf t t.nt)
   rw [YD]
   rw [Nat.sub_self] at hI
   exact hI
 ·rw [c] at hK;exact hK
def tbR :List (Nat×eI):=[(0,⟨[3,8,9,10],[1],[1,2,3,4,5],2,[(3,1)]⟩),(2,⟨[3,4,5,21,22,8,9,10],[1],[1,2,3,4,5],2,[(3,1)]⟩)]
def tbS(t:Trk)(o:SV)(b:Option SB)(i:Int):St:=⟨[(3,o),(8,.ro t.nr 1 (bN t)),(9,.int .i64 t.nr),(10,.int .i64 i)],[(1,b)],2,[1,2,3,4,5],42⟩
def tbT(t:Trk)(o:SV)(b:Option SB)(i:Int)(r:Nat)(X Y:Nat->Int)(n k:Int):St:=⟨[(3,o),(4,.int .i64 i),(5,.ro r 2 (aN X Y)),(21,.int .i64 n),(22,.int .i64 k),(8,.ro t.nr 1 (bN t)),(9,.int .i64 t.nr),(10,.int .i64 i)],[(1,b)],2,[1,2,3,4,5],42⟩
noncomputable abbrev tbE :Env:=fG tbR (fun _=>0) p9 1
noncomputable abbrev tbF :Func:=Tryz.f148
abbrev tbP :List Nat:=[1,1,0,1,0]
abbrev tbI :List Nat:=[1,1,0,0,1,1,0]
abbrev uQ :TypeId:=123
theorem aBQ(t:Trk)(K:KC):cL tbR (fun _=>0) p9 2 148 [.agg (aI t)] [] K=
 (∃q_,aV tbE (aA tbR 0) tbF tbP 0 0 K q_ {tmps:=[(3,SV.nils),(8,SV.ro t.nr 1 (bN t)),(9,SV.int .i64 (↑t.nr:Int)),(10,SV.int .i64 0)],store:=[(1,none)],nxt:=2,dirty:=[1,2,3,4,5],nt:=42}):=by kernel_rfl
theorem ZT(t:Trk)(i:Nat)(K:Ex->St->Prop):aF tbE (aA tbR 0) tbF tbP 0 K (tbS t .nils none i)=
 (Br (decide ((↑i:Int)<(↑t.nr:Int))) (Br (decide (0<=(↑i:Int))&&decide ((↑i:Int)<(↑t.nr:Int))) (Br (true&&(decide (0<=if 0>IntKind.i64.wrap ((↑(t.rn (↑i:Int).toNat):Int) - 1) then 0 else IntKind.i64.wrap ((↑(t.rn (↑i:Int).toNat):Int) - 1))&&decide ((if 0>IntKind.i64.wrap ((↑(t.rn (↑i:Int).toNat):Int) - 1) then 0 else IntKind.i64.wrap ((↑(t.rn (↑i:Int).toNat):Int) - 1))<=(↑(t.rn (↑i:Int).toNat):Int)))) (∃q_,iter (aF tbE (aA tbR 0) tbF (tbP++[0]++tbI) 2) (iM tbE (aA tbR 0) tbF tbP 0 tbI K) q_ {tmps:=[(3,SV.nils),(4,SV.int .i64 (↑i:Int)),(5,SV.ro (t.rn (↑i:Int).toNat) 2 (bA (t.rx (↑i:Int).toNat) (t.ry (↑i:Int).toNat))),(21,SV.int .i64 (↑((if 0>IntKind.i64.wrap ((↑(t.rn (↑i:Int).toNat):Int) - 1) then 0 else IntKind.i64.wrap ((↑(t.rn (↑i:Int).toNat):Int) - 1)).toNat - 0):Int)),(22,SV.int .i64 0),(8,SV.ro t.nr 1 (bN t)),(9,SV.int .i64 (↑t.nr:Int)),(10,SV.int .i64 (↑i:Int))],store:=[(1,none)],nxt:=2,dirty:=[1,2,3,4,5],nt:=42}) (False)) (False)) (K (Ex.exit 0) {tmps:=[(3,SV.nils),(8,SV.ro t.nr 1 (bN t)),(9,SV.int .i64 (↑t.nr:Int)),(10,SV.int .i64 (↑i:Int))],store:=[(1,none)],nxt:=2,dirty:=[1,2,3,4,5],nt:=42})):=by kernel_rfl
theorem ZW(t:Trk)(m:Nat)(g:Nat->List SV)(i:Nat)(K:Ex->St->Prop):aF tbE (aA tbR 0) tbF tbP 0 K (tbS t (.own 1 0 5 m) (some (.row 123 5 m g)) i)=
 (Br (decide ((↑i:Int)<(↑t.nr:Int))) (Br (decide (0<=(↑i:Int))&&decide ((↑i:Int)<(↑t.nr:Int))) (Br (true&&(decide (0<=if 0>IntKind.i64.wrap ((↑(t.rn (↑i:Int).toNat):Int) - 1) then 0 else IntKind.i64.wrap ((↑(t.rn (↑i:Int).toNat):Int) - 1))&&decide ((if 0>IntKind.i64.wrap ((↑(t.rn (↑i:Int).toNat):Int) - 1) then 0 else IntKind.i64.wrap ((↑(t.rn (↑i:Int).toNat):Int) - 1))<=(↑(t.rn (↑i:Int).toNat):Int)))) (∃q_,iter (aF tbE (aA tbR 0) tbF (tbP++[0]++tbI) 2) (iM tbE (aA tbR 0) tbF tbP 0 tbI K) q_ {tmps:=[(3,SV.own 1 0 5 m),(4,SV.int .i64 (↑i:Int)),(5,SV.ro (t.rn (↑i:Int).toNat) 2 (bA (t.rx (↑i:Int).toNat) (t.ry (↑i:Int).toNat))),(21,SV.int .i64 (↑((if 0>IntKind.i64.wrap ((↑(t.rn (↑i:Int).toNat):Int) - 1) then 0 else IntKind.i64.wrap ((↑(t.rn (↑i:Int).toNat):Int) - 1)).toNat - 0):Int)),(22,SV.int .i64 0),(8,SV.ro t.nr 1 (bN t)),(9,SV.int .i64 (↑t.nr:Int)),(10,SV.int .i64 (↑i:Int))],store:=[(1,some (SB.row 123 5 m g))],nxt:=2,dirty:=[1,2,3,4,5],nt:=42}) (False)) (False)) (K (Ex.exit 0) {tmps:=[(3,SV.own 1 0 5 m),(8,SV.ro t.nr 1 (bN t)),(9,SV.int .i64 (↑t.nr:Int)),(10,SV.int .i64 (↑i:Int))],store:=[(1,some (SB.row 123 5 m g))],nxt:=2,dirty:=[1,2,3,4,5],nt:=42})):=by kernel_rfl
theorem aI9(t:Trk)(i r:Nat)(X Y:Nat->Int)(n k:Nat)(K:Ex->St->Prop):aF tbE (aA tbR 0) tbF (tbP++[0]++tbI) 2 K (tbT t .nils none i r X Y n k)=
 (Br (decide ((↑k:Int)<(↑n:Int))) (Br (decide (0<=(↑k:Int))&&decide ((↑k:Int)<(↑r:Int))) (Br (decide (0<=IntKind.i64.wrap ((↑k:Int)+1))&&decide (IntKind.i64.wrap ((↑k:Int)+1)<(↑r:Int))) (K Ex.normal {tmps:=[(3,SV.own 1 0 5 1),(4,SV.int .i64 (↑i:Int)),(5,SV.ro r 2 (aN X Y)),(21,SV.int .i64 (↑n:Int)),(22,SV.int .i64 (IntKind.i64.wrap ((↑k:Int)+1))),(8,SV.ro t.nr 1 (bN t)),(9,SV.int .i64 (↑t.nr:Int)),(10,SV.int .i64 (↑i:Int))],store:=[(1,some (SB.row 123 5 1 fun (i_1:Nat)=>cut [SV.int .i64 (X (↑k:Int).toNat),SV.int .i64 (Y (↑k:Int).toNat),SV.int .i64 (X (IntKind.i64.wrap ((↑k:Int)+1)).toNat),SV.int .i64 (Y (IntKind.i64.wrap ((↑k:Int)+1)).toNat),SV.int .i64 (↑i:Int)] (i_1*5) 5))],nxt:=2,dirty:=[1,2,3,4,5],nt:=42}) (False)) (False)) (K (Ex.exit 2) {tmps:=[(3,SV.nils),(4,SV.int .i64 (↑i:Int)),(5,SV.ro r 2 (aN X Y)),(21,SV.int .i64 (↑n:Int)),(22,SV.int .i64 (↑k:Int)),(8,SV.ro t.nr 1 (bN t)),(9,SV.int .i64 (↑t.nr:Int)),(10,SV.int .i64 (↑i:Int))],store:=[(1,none)],nxt:=2,dirty:=[1,2,3,4,5],nt:=42})):=by kernel_rfl
theorem aJ8(t:Trk)(m:Nat)(g:Nat->List SV)(i r:Nat)(X Y:Nat->Int)(n k:Nat)(K:Ex->St->Prop):aF tbE (aA tbR 0) tbF (tbP++[0]++tbI) 2 K (tbT t (.own 1 0 5 m) (some (.row 123 5 m g)) i r X Y n k)=
 (Br (decide ((↑k:Int)<(↑n:Int))) (Br (decide (0<=(↑k:Int))&&decide ((↑k:Int)<(↑r:Int))) (Br (decide (0<=IntKind.i64.wrap ((↑k:Int)+1))&&decide (IntKind.i64.wrap ((↑k:Int)+1)<(↑r:Int))) (Br (decide ((m+1)*40<=1099511627776)&&decide (m+1<9223372036854775808)&&decide (m=m)) (K Ex.normal {tmps:=[(3,SV.own 1 0 5 (m+1)),(4,SV.int .i64 (↑i:Int)),(5,SV.ro r 2 (aN X Y)),(21,SV.int .i64 (↑n:Int)),(22,SV.int .i64 (IntKind.i64.wrap ((↑k:Int)+1))),(8,SV.ro t.nr 1 (bN t)),(9,SV.int .i64 (↑t.nr:Int)),(10,SV.int .i64 (↑i:Int))],store:=[(1,some (SB.row 123 5 (m+1) (bK m [SV.int .i64 (X (↑k:Int).toNat),SV.int .i64 (Y (↑k:Int).toNat),SV.int .i64 (X (IntKind.i64.wrap ((↑k:Int)+1)).toNat),SV.int .i64 (Y (IntKind.i64.wrap ((↑k:Int)+1)).toNat),SV.int .i64 (↑i:Int)] g)))],nxt:=2,dirty:=[1,2,3,4,5],nt:=42}) (False)) (False)) (False)) (K (Ex.exit 2) {tmps:=[(3,SV.own 1 0 5 m),(4,SV.int .i64 (↑i:Int)),(5,SV.ro r 2 (aN X Y)),(21,SV.int .i64 (↑n:Int)),(22,SV.int .i64 (↑k:Int)),(8,SV.ro t.nr 1 (bN t)),(9,SV.int .i64 (↑t.nr:Int)),(10,SV.int .i64 (↑i:Int))],store:=[(1,some (SB.row 123 5 m g))],nxt:=2,dirty:=[1,2,3,4,5],nt:=42})):=by kernel_rfl
theorem aEC(t:Trk)(i r:Nat)(X Y:Nat->Int)(n k:Nat)(K:Ex->St->Prop):iM tbE (aA tbR 0) tbF tbP 0 tbI K (.exit 2) (tbT t .nils none i r X Y n k)=
 (K Ex.normal {tmps:=[(3,SV.nils),(8,SV.ro t.nr 1 (bN t)),(9,SV.int .i64 (↑t.nr:Int)),(10,SV.int .i64 (IntKind.i64.wrap ((↑i:Int)+1)))],store:=[(1,none)],nxt:=2,dirty:=[1,2,3,4,5],nt:=42}):=by kernel_rfl
theorem aCU(t:Trk)(m:Nat)(g:Nat->List SV)(i r:Nat)(X Y:Nat->Int)(n k:Nat)(K:Ex->St->Prop):iM tbE (aA tbR 0) tbF tbP 0 tbI K (.exit 2) (tbT t (.own 1 0 5 m) (some (.row 123 5 m g)) i r X Y n k)=
 (K Ex.normal {tmps:=[(3,SV.own 1 0 5 m),(8,SV.ro t.nr 1 (bN t)),(9,SV.int .i64 (↑t.nr:Int)),(10,SV.int .i64 (IntKind.i64.wrap ((↑i:Int)+1)))],store:=[(1,some (SB.row 123 5 m g))],nxt:=2,dirty:=[1,2,3,4,5],nt:=42}):=by kernel_rfl
theorem aAx(t:Trk)(i:Nat)(K:KC):aB tbE (aA tbR 0) tbF tbP 0 K (.exit 0) (tbS t .nils none i)=
 (K SV.nils [] []):=by kernel_rfl
theorem aBm(t:Trk)(m:Nat)(g:Nat->List SV)(i:Nat)(K:KC):aB tbE (aA tbR 0) tbF tbP 0 K (.exit 0) (tbS t (.own 1 0 5 m) (some (.row 123 5 m g)) i)=
 (K (SV.own 0 0 5 m) [some (SB.row 123 5 m g)] []):=by kernel_rfl
theorem aDt (t:Trk) (i n:Nat) (L0:List Bar) (hi:i<20) (hr:t.rn i<=100) (hn:n=t.rn i - 1) (hL:L0.length<=2000) (K:Ex->St->Prop)
  (hK: ∀o b,bU uQ 5 1 bsv (L0++kI t i n) o b->K .normal (tbS t o b (i+1:Nat))):
  ∀(f:Nat) (a:Nat×SV×Option SB),(a.1<=n/\bU uQ 5 1 bsv (L0++kI t i a.1) a.2.1 a.2.2)->n - a.1<f->
   iter (aF tbE (aA tbR 0) tbF (tbP++[0]++tbI) 2) (iM tbE (aA tbR 0) tbF tbP 0 tbI K) f (tbT t a.2.1 a.2.2 i (t.rn i) (t.rx i) (t.ry i) n a.1):=
 iH (fun a:Nat×SV×Option SB=>tbT t a.2.1 a.2.2 i (t.rn i) (t.rx i) (t.ry i) n a.1) (fun a=>n - a.1) (fun a=>a.1<=n/\bU uQ 5 1 bsv (L0++kI t i a.1) a.2.1 a.2.2) (fun a=>by
  obtain ⟨k,o,b⟩:=a
  rintro ⟨hk,ht⟩ Z hZ
  simp only at hk ht hZ|-
  rcases ht with ⟨hl,rfl,rfl⟩|⟨g,hl,rfl,rfl,hg⟩
  ·rw [aI9]
   refine Br.of (fun c=>Br.of (fun _=>Br.of (fun _=> ?_) fun c1=> ?_) fun c1=> ?_) fun c=> ?_
   ·have c':=aa c
    show Z _
    rw [aK (n:=n) (by omega) (by omega)]
    simp only [am]
    refine hZ (k+1,_,_) ⟨by show k+1<=n;omega, ?_⟩ (by show n - (k+1)<n - k;omega)
    show bU uQ 5 1 bsv (L0++kI t i (k+1)) _ _
    rw [tW,<- bo,hl,dj]
    exact eT (yV t i k) rfl
   ·have c':=aa c
    rw [aK (n:=n) (by omega) (by omega)] at c1
    simp only [bf,aw] at c1;omega
   ·have c':=aa c
    simp only [bf,aw] at c1;omega
   ·have c':=ae c
    have hkn:k=n:=by omega
    subst hkn
    show iM tbE (aA tbR 0) tbF tbP 0 tbI K (.exit 2) (tbT t .nils none i (t.rn i) (t.rx i) (t.ry i) k k)
    rw [aEC,aK (n:=20) (by omega) (by omega)]
    exact hK _ _ (.inl ⟨hl,rfl,rfl⟩)
  ·rw [aJ8]
   have hlen:(L0++kI t i k).length<=2100:=by rw [au,A4];omega
   refine Br.of (fun c=>Br.of (fun _=>Br.of (fun _=>Br.of (fun _=> ?_) fun c1=> ?_) fun c1=> ?_) fun c1=> ?_) fun c=> ?_
   ·have c':=aa c
    show Z _
    rw [aK (n:=n) (by omega) (by omega)]
    simp only [am]
    refine hZ (k+1,_,_) ⟨by show k+1<=n;omega, ?_⟩ (by show n - (k+1)<n - k;omega)
    show bU uQ 5 1 bsv (L0++kI t i (k+1)) _ _
    rw [tW,<- bo]
    exact fQ (yV t i k) rfl hg
   ·rw [bf,bf] at c1
    rcases c1 with (c1|c1)|c1
    ·have:=ae c1;omega
    ·have:=ae c1;omega
    ·exact absurd rfl (ae c1)
   ·have c':=aa c
    rw [aK (n:=n) (by omega) (by omega)] at c1
    simp only [bf,aw] at c1;omega
   ·have c':=aa c
    simp only [bf,aw] at c1;omega
   ·have c':=ae c
    have hkn:k=n:=by omega
    subst hkn
    show iM tbE (aA tbR 0) tbF tbP 0 tbI K (.exit 2) (tbT t _ _ i (t.rn i) (t.rx i) (t.ry i) k k)
    rw [aCU,aK (n:=20) (by omega) (by omega)]
    exact hK _ _ (.inr ⟨g,hl,rfl,rfl,hg⟩))
theorem aE8(t:Trk)(hs:g8 t)(K:KC)(hK:lC uQ 5 bsv (mR t) K):cL tbR (fun _=>0) p9 2 148 [.agg (aI t)] [] K:=by
 rw [aBQ]
 obtain ⟨hs1,hs2⟩:=hs
 refine ⟨t.nr+1,iH (fun a:Nat×SV×Option SB=>tbS t a.2.1 a.2.2 a.1) (fun a=>t.nr - a.1) (fun a=>a.1<=t.nr/\bU uQ 5 1 bsv (lJ t a.1) a.2.1 a.2.2) (fun a=> ?_) (t.nr+1) (0,.nils,none) ⟨cn _,lS⟩ (by omega)⟩
 obtain ⟨i,o,b⟩:=a
 rintro ⟨hi,ht⟩ Z hZ
 simp only at hi ht hZ|-
 have hlen:(lJ t i).length<=2000:=by
  have:=nW hs2 i hi
  have:i*100<=20*100:=bj _ (by omega)
  omega
 have hinner:i<t.nr-> ∃q,iter (aF tbE (aA tbR 0) tbF (tbP++[0]++tbI) 2) (iM tbE (aA tbR 0) tbF tbP 0 tbI (gM Z (aB tbE (aA tbR 0) tbF tbP 0 K))) q (tbT t o b i (t.rn i) (t.rx i) (t.ry i) (t.rn i - 1:Nat) 0):=fun hlt=>
  ⟨(t.rn i - 1)+1,aDt t i (t.rn i - 1) (lJ t i) (by omega) (hs2 i hlt) rfl hlen _ (fun o b h=>hZ (i+1,o,b) ⟨hlt,h⟩ (by show t.nr - (i+1)<t.nr - i;omega)) _ (0,o,b)
   ⟨cn _,by show bU uQ 5 1 bsv (lJ t i++kI t i 0) o b;rw [show kI t i 0=[] from rfl,cm];exact ht⟩ (by show t.rn i - 1 - 0<_;omega)⟩
 have hend:i=t.nr->bU uQ 5 1 bsv (mR t) o b:=fun h=>by subst h;exact ht
 rcases ht with ⟨hl,rfl,rfl⟩|⟨g,hl,rfl,rfl,hg⟩
 ·rw [ZT]
  refine Br.of (fun c=>Br.of (fun _=>Br.of (fun _=> ?_) fun c1=> ?_) fun c1=> ?_) fun c=> ?_
  ·have c':=aa c
   have:=hs2 i (by omega)
   simp only [am]
   rw [zV (by omega)]
   simp only [am,dk]
   exact hinner (by omega)
  ·have c':=aa c
   have:=hs2 i (by omega)
   simp only [am] at c1
   rw [zV (by omega)] at c1
   simp only [ch,bf,aw] at c1;omega
  ·have c':=aa c
   simp only [bf,aw] at c1;omega
  ·have c':=ae c
   show aB tbE (aA tbR 0) tbF tbP 0 K (.exit 0) (tbS t .nils none i)
   rw [aAx]
   rcases hend (by omega) with ⟨h,_,_⟩|⟨_,_,h,_⟩
   ·exact hK.1 h
   ·cases h
 ·rw [ZW]
  refine Br.of (fun c=>Br.of (fun _=>Br.of (fun _=> ?_) fun c1=> ?_) fun c1=> ?_) fun c=> ?_
  ·have c':=aa c
   have:=hs2 i (by omega)
   simp only [am]
   rw [zV (by omega)]
   simp only [am,dk]
   exact hinner (by omega)
  ·have c':=aa c
   have:=hs2 i (by omega)
   simp only [am] at c1
   rw [zV (by omega)] at c1
   simp only [ch,bf,aw] at c1;omega
  ·have c':=aa c
   simp only [bf,aw] at c1;omega
  ·have c':=ae c
   show aB tbE (aA tbR 0) tbF tbP 0 K (.exit 0) (tbS t _ _ i)
   rw [aBm]
   have hi':i=t.nr:=by omega
   subst hi'
   exact hK.2 g hl hg
theorem aFE(t:Trk)(hs:g8 t):aE Tryz.prog 148 [.agg (aI t)] [] (.ro (mR t).length 5 (tY (mR t))) [] []:=
 vL (fun _=>rfl) fun K hK=>bS (env:=tab.env p9 (fun _=>0) (fun _=>false)) ⟨tab.htt,p9.ok⟩ tab.mixed (fun n=>aY n tbR) tab.hft 2 _ _ _ K (aE8 t hs K hK)
def jW(nr:Nat)(rl:Nat->List SV):Prop:=nr<=20/\ ∀i,i<nr->aFZ (rl i)<=100
def JO :List SV->List (Option SB)->KC->Prop
 | [.agg [.int .i64 a0,.int .i64 a1,.int .i64 a2,.int .i64 a3,.int .i64 a4,.int .i64 a5,.ro nh 1 h,.ro ng 1 g,.ro nk 3 kg,.ro nl 2 l,.ro nr 1 rl,.ro nt 5 gt,.int .i64 sx,.int .i64 sy,.int .u32 hd,.int .i64 lp]],[],K=>iX h g kg l rl gt/\jW nr rl/\K (.ro (mR (mZ a0 a1 a2 a3 a4 a5 nh h ng g nk kg nl l nr rl nt gt sx sy hd lp)).length 5 (tY (mR (mZ a0 a1 a2 a3 a4 a5 nh h ng g nk kg nl l nr rl nt gt sx sy hd lp)))) [] []
 |_,_,_=>False
theorem aDk(xs:List SV)(σ:List (Option SB)):Sat Tryz.prog 148 xs σ (JO xs σ):=by
 intro K hK
 unfold JO at hK
 split at hK
 ·obtain ⟨h1,h2,hK⟩:=hK
  refine ⟨_,_,_,hK, ?_⟩
  rw [i5 h1]
  exact aFE _ h2
 ·exact hK.elim
def CR(v:Trk->Int×Int):List SV->List (Option SB)->KC->Prop
 | [.agg [.int .i64 a0,.int .i64 a1,.int .i64 a2,.int .i64 a3,.int .i64 a4,.int .i64 a5,.ro nh 1 h,.ro ng 1 g,.ro nk 3 kg,.ro nl 2 l,.ro nr 1 rl,.ro nt 5 gt,.int .i64 sx,.int .i64 sy,.int .u32 hd,.int .i64 lp]],[],K=>iX h g kg l rl gt/\jW nr rl/\sV (v (mZ a0 a1 a2 a3 a4 a5 nh h ng g nk kg nl l nr rl nt gt sx sy hd lp)) K
 |_,_,_=>False
theorem aCO{c:Int×Int}{K:KC}(h:sV c K): ∃v σ' d,K v σ' d:=by
 unfold sV at h
 cases hc:c.1==0<;>rw [hc] at h<;>exact ⟨_,_,_,h⟩
theorem vK{k:FuncId}{v:Trk->Int×Int}(h: ∀t:Trk,g8 t->t.nr<9223372036854775808->t.nt<9223372036854775808->Sat Tryz.prog k [.agg (aI t)] [] (sV (v t)))(xs:List SV)(σ:List (Option SB)):Sat Tryz.prog k xs σ (CR v xs σ):=by
 refine pM (fun K hK=> ?_) fun hx _ K hK=> ?_<;>unfold CR at hK<;>split at hK
 ·exact aCO hK.2.2
 ·exact hK.elim
 ·obtain ⟨⟨_,_,_,_,_,_,_,_,_,_,hr,ht,_⟩,_⟩:=hx
  rw [i5 hK.1]
  refine h _ ?_ hr.1 ht.1 K hK.2.2
  exact hK.2.1
 ·exact hK.elim
theorem RM(xs:List SV)(σ:List (Option SB)):Sat Tryz.prog 98 xs σ (CR (fun t=>(fT t,0)) xs σ):=
 vK (fun t _ _ _ K hK=>bS (env:=tab.env p9 (fun _=>0) (fun _=>false)) ⟨tab.htt,p9.ok⟩ tab.mixed (fun n=>aY n []) tab.hft 4 _ _ _ K (SI t K hK)) xs σ
theorem aBn(xs:List SV)(σ:List (Option SB)):Sat Tryz.prog 99 xs σ (CR nH xs σ):=
 vK (fun t _ h _ K hK=>bS (env:=tab.env p9 (fun _=>0) (fun _=>false)) ⟨tab.htt,p9.ok⟩ tab.mixed (fun n=>aY n CK) tab.hft 4 _ _ _ K (aAs t h K hK)) xs σ
theorem aBj(xs:List SV)(σ:List (Option SB)):Sat Tryz.prog 100 xs σ (CR oY xs σ):=
 vK (fun t _ _ h K hK=>bS (env:=tab.env p9 (fun _=>0) (fun _=>false)) ⟨tab.htt,p9.ok⟩ tab.mixed (fun n=>aY n CV) tab.hft 4 _ _ _ K (aBb t h K hK)) xs σ
noncomputable def p10 :bT Tryz.prog:=(((((p9).add 148 JO aDk).add 98 (CR (fun t=>(fT t,0))) RM).add 99 (CR nH) aBn).add 100 (CR oY) aBj).add 149 (one JA) (aT fun xs σ v σ' d h=>by
  unfold JA at h;split at h<;>cases h;first|exact eX|exact eX _|exact eX _ _|exact eX _ _ _|exact eX _ _ _ _|exact eX _ _ _ _ _|exact eX _ _ _ _ _ _|exact eX _ _ _ _ _ _ _|exact eX _ _ _ _ _ _ _ _|exact eX _ _ _ _ _ _ _ _ _|exact eX _ _ _ _ _ _ _ _ _ _|exact eX _ _ _ _ _ _ _ _ _ _ _)
def tsR :List (Nat×eI):=[(0,⟨[1,2,60,61,62],[0,4],[1,2,3,4,5,6,7],5,[(2,4)]⟩)]
def tsS(t:Trk)(L:List Bar)(i:Int):St:=⟨[(1,.ptr 0 0),(2,.nilI),(60,.ro L.length 5 (tY L)),(61,.int .i64 L.length),(62,.int .i64 i)],[(0,some (.cells 34 (aI t))),(4,none)],5,[1,2,3,4,5,6,7],88⟩
def tsT(t:Trk)(L:List Bar)(c a i:Int):St:=⟨[(1,.ptr 0 0),(2,.iface 91 (.ptr 4 0)),(60,.ro L.length 5 (tY L)),(61,.int .i64 L.length),(62,.int .i64 i)],[(0,some (.cells 34 (aI t))),(4,some (.cells 98 [.int .i64 c,.int .i64 a]))],5,[1,2,3,4,5,6,7],88⟩
noncomputable abbrev tsE :Env:=fG tsR (fun _=>0) p10 3
noncomputable abbrev tsF :Func:=Tryz.f101
abbrev tsP :List Nat:=[1,1,1,1,0,1,0]
theorem aE6(t:Trk)(K:KC):cL tsR (fun _=>0) p10 4 101 [.agg (aI t)] [] K=
 (Br (decide (t.sx<t.cx)) (K (SV.iface 91 (SV.ptr 0 0)) [some (SB.cells 98 [SV.int .i64 40,SV.int .i64 0])] []) (Br (decide (t.sy<t.cy)) (K (SV.iface 91 (SV.ptr 0 0)) [some (SB.cells 98 [SV.int .i64 40,SV.int .i64 0])] []) (Br (decide (t.sx>IntKind.i64.wrap (t.cx+IntKind.i64.wrap (t.cols*t.cell)))) (K (SV.iface 91 (SV.ptr 0 0)) [some (SB.cells 98 [SV.int .i64 40,SV.int .i64 0])] []) (Br (decide (t.sy>IntKind.i64.wrap (t.cy+IntKind.i64.wrap (t.rows*t.cell)))) (K (SV.iface 91 (SV.ptr 0 0)) [some (SB.cells 98 [SV.int .i64 40,SV.int .i64 0])] []) ((iX (aP t.h) (aP t.g) (fH t) (bA t.lx t.ly) (bN t) (fB t))/\((jW t.nr (bN t))/\(∃q_,aV tsE (aA tsR 0) tsF tsP 0 0 K q_ {tmps:=[(1,SV.ptr 0 0),(2,SV.nilI),(60,SV.ro (mR t).length 5 (tY (mR t))),(61,SV.int .i64 (↑(mR t).length:Int)),(62,SV.int .i64 0)],store:=[(0,some (SB.cells 34 (aI t))),(4,none)],nxt:=5,dirty:=[1,2,3,4,5,6,7],nt:=88}))))))):=by kernel_rfl
theorem PY(t:Trk)(L:List Bar)(i:Nat)(K:Ex->St->Prop):aF tsE (aA tsR 0) tsF tsP 0 K (tsS t L i)=
 (Br (decide ((↑i:Int)<(↑L.length:Int))) (Br (decide (0<=(↑i:Int))&&decide ((↑i:Int)<(↑L.length:Int))) (Br (decide (0<AX (L.getD (↑i:Int).toNat oW).fst (L.getD (↑i:Int).toNat oW).snd.fst (L.getD (↑i:Int).toNat oW).snd.snd.fst (L.getD (↑i:Int).toNat oW).snd.snd.snd.fst t.sx t.sy)) (Br (decide (AX (L.getD (↑i:Int).toNat oW).fst (L.getD (↑i:Int).toNat oW).snd.fst (L.getD (↑i:Int).toNat oW).snd.snd.fst (L.getD (↑i:Int).toNat oW).snd.snd.snd.fst t.sx t.sy<=17179869184)) (K Ex.ret {tmps:=[(1,SV.ptr 0 0),(2,SV.iface 91 (SV.ptr 4 0)),(60,SV.ro L.length 5 (tY L)),(61,SV.int .i64 (↑L.length:Int)),(62,SV.int .i64 (↑i:Int))],store:=[(0,some (SB.cells 34 (aI t))),(4,some (SB.cells 98 [SV.int .i64 43,SV.int .i64 0]))],nxt:=5,dirty:=[1,2,3,4,5,6,7],nt:=88}) (K Ex.normal {tmps:=[(1,SV.ptr 0 0),(2,SV.nilI),(60,SV.ro L.length 5 (tY L)),(61,SV.int .i64 (↑L.length:Int)),(62,SV.int .i64 (IntKind.i64.wrap ((↑i:Int)+1)))],store:=[(0,some (SB.cells 34 (aI t))),(4,none)],nxt:=5,dirty:=[1,2,3,4,5,6,7],nt:=88})) (K Ex.normal {tmps:=[(1,SV.ptr 0 0),(2,SV.nilI),(60,SV.ro L.length 5 (tY L)),(61,SV.int .i64 (↑L.length:Int)),(62,SV.int .i64 (IntKind.i64.wrap ((↑i:Int)+1)))],store:=[(0,some (SB.cells 34 (aI t))),(4,none)],nxt:=5,dirty:=[1,2,3,4,5,6,7],nt:=88})) (False)) (K (Ex.exit 0) {tmps:=[(1,SV.ptr 0 0),(2,SV.nilI),(60,SV.ro L.length 5 (tY L)),(61,SV.int .i64 (↑L.length:Int)),(62,SV.int .i64 (↑i:Int))],store:=[(0,some (SB.cells 34 (aI t))),(4,none)],nxt:=5,dirty:=[1,2,3,4,5,6,7],nt:=88})):=by kernel_rfl
theorem aIX(t:Trk)(L:List Bar)(c a i:Int)(K:KC):aB tsE (aA tsR 0) tsF tsP 0 K .ret (tsT t L c a i)=
 (K (SV.iface 91 (SV.ptr 0 0)) [some (SB.cells 98 [SV.int .i64 c,SV.int .i64 a])] []):=by kernel_rfl
theorem aE2(t:Trk)(L:List Bar)(i:Int)(K:KC):aB tsE (aA tsR 0) tsF tsP 0 K (.exit 0) (tsS t L i)=
 (Br (decide (1<=t.laps)) (Br (!!decide (t.laps<=100)) (K SV.nilI [] []) (K (SV.iface 91 (SV.ptr 0 0)) [some (SB.cells 98 [SV.int .i64 40,SV.int .i64 0])] [])) (K (SV.iface 91 (SV.ptr 0 0)) [some (SB.cells 98 [SV.int .i64 40,SV.int .i64 0])] [])):=by kernel_rfl
theorem ZE(t:Trk)(hs:g8 t)(K:KC)(hK:sV (nD t) K):cL tsR (fun _=>0) p10 4 101 [.agg (aI t)] [] K:=by
 rw [aE6]
 unfold nD SR at hK
 refine Br.of (fun c1=> ?_) fun c1=>Br.of (fun c2=> ?_) fun c2=>Br.of (fun c3=> ?_) fun c3=>Br.of (fun c4=> ?_) fun c4=>⟨fZ t,hs, ?_⟩
 ·rw [c1] at hK;exact hK
 ·rw [c1,c2] at hK;exact hK
 ·rw [c1,c2,c3] at hK;exact hK
 ·rw [c1,c2,c3,c4] at hK;exact hK
 rw [c1,c2,c3,c4] at hK
 simp only [Bool.or_false,ap] at hK
 have hlen:(mR t).length<=2000:=by
  have:=nW hs.2 t.nr (av _)
  have h2:t.nr*100<=20*100:=bj _ hs.1
  unfold mR
  omega
 generalize hLL:mR t=L at hlen|-
 refine ⟨L.length+1,j8 (fun i:Nat=>tsS t L i) L.length (fun i=> ∀j,j<i->nO t (L.getD j oW)=false) (fun i hi hI X hX=> ?_) (fun hI X=> ?_) (fun j hj=>absurd hj (dn j))⟩
 ·have hret:nO t (L.getD i oW)=true->gM X (aB tsE (aA tsR 0) tsF tsP 0 K) .ret (tsT t L 43 0 i):=fun h=>by
   show aB tsE (aA tsR 0) tsF tsP 0 K .ret (tsT t L 43 0 i)
   rw [aIX]
   rw [show nS t=true by unfold nS;rw [hLL];exact iS.2 ⟨i,hi,h⟩] at hK
   exact hK
  have hnext:nO t (L.getD i oW)=false->gM X (aB tsE (aA tsR 0) tsF tsP 0 K) .normal (tsS t L (i+1:Nat)):=fun h=>hX fun j hj=>by
   rcases ia (Nat.le_of_lt_succ hj) with hj|rfl
   ·exact hI j hj
   ·exact h
  rw [PY,aK (n:=L.length) hi (by omega)]
  simp only [am]
  unfold nO at hret hnext
  refine Br.of (fun _=>Br.of (fun _=>Br.of (fun c1=>Br.of (fun c2=>hret ?_) fun c2=>hnext ?_) fun c1=>hnext ?_) fun c=> ?_) fun c=> ?_
  ·rw [c1,c2];rfl
  ·rw [c1,c2];rfl
  ·rw [c1];rfl
  ·simp only [bf,aw] at c;omega
  ·have:=ae c;omega
 ·rw [PY]
  refine Br.of (fun c=>absurd (aa c) (by omega)) fun _=> ?_
  show aB tsE (aA tsR 0) tsF tsP 0 K (.exit 0) (tsS t L L.length)
  rw [aE2]
  rw [show nS t=false by unfold nS;rw [hLL];exact e9.2 hI] at hK
  unfold CA at hK
  simp only [ap] at hK
  refine Br.of (fun d1=>Br.of (fun d2=> ?_) fun d2=> ?_) fun d1=> ?_
  ·rw [d1,show decide (t.laps<=100)=true by rw [fj] at d2;exact d2] at hK;exact hK
  ·rw [d1,show decide (t.laps<=100)=false by rw [fj] at d2;exact d2] at hK;exact hK
  ·rw [d1] at hK;exact hK
theorem aA0(xs:List SV)(σ:List (Option SB)):Sat Tryz.prog 101 xs σ (CR nD xs σ):=
 vK (fun t hs _ _ K hK=>bS (env:=tab.env p10 (fun _=>0) (fun _=>false)) ⟨tab.htt,p10.ok⟩ tab.mixed (fun n=>aY n tsR) tab.hft 4 _ _ _ K (ZE t hs K hK)) xs σ
noncomputable def p11 :bT Tryz.prog:=(p10).add 101 (CR nD) aA0
theorem aDo(t:Trk)(K:KC):run p11 2 56 [.agg (aI t)] [] K=
 ((iX (aP t.h) (aP t.g) (fH t) (bA t.lx t.ly) (bN t) (fB t))/\((jW t.nr (bN t))/\(Br (((fun (t:Trk)=>(fT t,0)) t).fst==0) ((iX (aP t.h) (aP t.g) (fH t) (bA t.lx t.ly) (bN t) (fB t))/\((jW t.nr (bN t))/\(Br ((nH t).fst==0) ((iX (aP t.h) (aP t.g) (fH t) (bA t.lx t.ly) (bN t) (fB t))/\((jW t.nr (bN t))/\(Br ((oY t).fst==0) ((iX (aP t.h) (aP t.g) (fH t) (bA t.lx t.ly) (bN t) (fB t))/\((jW t.nr (bN t))/\(Br ((nD t).fst==0) (K SV.nilI [] []) (K (SV.iface 91 (SV.ptr 0 0)) [some (SB.cells 98 [SV.int .i64 (nD t).fst,SV.int .i64 (nD t).snd])] [])))) (K (SV.iface 91 (SV.ptr 0 0)) [some (SB.cells 98 [SV.int .i64 (oY t).fst,SV.int .i64 (oY t).snd])] [])))) (K (SV.iface 91 (SV.ptr 0 0)) [some (SB.cells 98 [SV.int .i64 (nH t).fst,SV.int .i64 (nH t).snd])] [])))) (K (SV.iface 91 (SV.ptr 0 0)) [some (SB.cells 98 [SV.int .i64 ((fun (t:Trk)=>(fT t,0)) t).fst,SV.int .i64 ((fun (t:Trk)=>(fT t,0)) t).snd])] [])))):=by kernel_rfl
theorem fL{x:Int}{b:Bool}(h:(x==0)=b):(x !=0)= !b:=by rw [<- h];rfl
theorem YT(t:Trk)(hs:g8 t)(K:KC)(hK:sV (cG t) K):run p11 2 56 [.agg (aI t)] [] K:=by
 rw [aDo]
 unfold cG orV at hK
 refine ⟨fZ t,hs,Br.of (fun c1=>⟨fZ t,hs,Br.of (fun c2=>⟨fZ t,hs,Br.of (fun c3=>⟨fZ t,hs,Br.of (fun c4=> ?_) fun c4=> ?_⟩) fun c3=> ?_⟩) fun c2=> ?_⟩) fun c1=> ?_⟩
 ·have c1':(fT t==0)=true:=c1
  simp only [fL c1',fL c2,fL c3,eb,ap] at hK
  unfold sV at hK;rw [c4] at hK;exact hK
 ·have c1':(fT t==0)=true:=c1
  simp only [fL c1',fL c2,fL c3,eb,ap] at hK
  unfold sV at hK;rw [c4] at hK;exact hK
 ·have c1':(fT t==0)=true:=c1
  simp only [fL c1',fL c2,fL c3,eb,fx,ap,ar] at hK
  unfold sV at hK;rw [c3] at hK;exact hK
 ·have c1':(fT t==0)=true:=c1
  simp only [fL c1',fL c2,eb,fx,ap,ar] at hK
  unfold sV at hK;rw [c2] at hK;exact hK
 ·have c1':(fT t==0)=false:=c1
  simp only [fL c1',fx,ar] at hK
  unfold sV at hK
  simp only [c1'] at hK
  exact hK
theorem ZS(xs:List SV)(σ:List (Option SB)):Sat Tryz.prog 56 xs σ (CR cG xs σ):=
 vK (fun t hs _ _ K hK=>bS (env:=tab.env p11 (fun _=>0) (fun _=>false)) ⟨tab.htt,p11.ok⟩ tab.mixed (fun n=>aY n []) tab.hft 2 _ _ _ K (YT t hs K hK)) xs σ
noncomputable def p12 :bT Tryz.prog:=((p11).add 56 (CR cG) ZS).add 55 cAs aCW
theorem aCo(t:Trk)(K:KC):run p12 2 14 [.agg (aI t)] [] K=
 ((iX (aP t.h) (aP t.g) (fH t) (bA t.lx t.ly) (bN t) (fB t))/\((jW t.nr (bN t))/\(Br ((cG t).fst==0) (K (SV.tup [SV.int .i64 0,SV.int .i64 0]) [] []) (K (SV.tup [SV.int .i64 (cG t).fst,SV.int .i64 (cG t).snd]) [] [])))):=by kernel_rfl
theorem aES{a b:Int×Int}(ha:a.1=0->a.2=0)(hb:b.1=0->b.2=0):(orV a b).1=0->(orV a b).2=0:=by
 unfold orV
 cases h:a.1 !=0
 ·exact hb
 ·exact ha
theorem VO{c:Nat->Int}: ∀f i,(qK c f i).1=0->(qK c f i).2=0
 |0,_=>fun _=>rfl
 |f+1,i=>by
  unfold qK
  cases h:c i !=0
  ·exact VO f (i+1)
  ·intro h1
   have h1':c i=0:=h1
   rw [h1'] at h;cases h
theorem aC0(t:Trk):(cG t).1=0->(cG t).2=0:=by
 unfold cG
 refine aES (fun _=>rfl) (aES ?_ (aES ?_ ?_))
 ·unfold nH;cases decide ((t.nr:Int)>16)
  ·exact VO _ _
  ·exact fun _=>rfl
 ·unfold oY;cases !(decide ((1:Int)<=t.nt)&&decide ((t.nt:Int)<=16))
  ·exact VO _ _
  ·exact fun _=>rfl
 ·unfold nD;cases SR t<;>cases nS t<;>cases !CA t<;>exact fun _=>rfl
theorem YB(t:Trk)(hs:g8 t)(K:KC)(hK:K (.tup [.int .i64 (cG t).1,.int .i64 (cG t).2]) [] []):run p12 2 14 [.agg (aI t)] [] K:=by
 rw [aCo]
 refine ⟨fZ t,hs,Br.of (fun c=> ?_) fun c=> ?_⟩
 ·have c':=eq_of_beq c
  rw [aC0 t c',c'] at hK
  exact hK
 ·exact hK
end Go.Proofs.YtghnfjfkjhbgdaaGreatDoor
namespace Go.Se
theorem aKT{α:Type}{f:Nat->α}{n i:Nat}(h:i<n):f i∈lst f n:=fa.2 ⟨i,List.mem_range.2 h,rfl⟩
structure PM (t:Trk):Prop where
 gd:G7 t
 nl:t.nl<=64
 nr:t.nr<=16
 rn: ∀i,i<t.nr->2<=t.rn i/\t.rn i<=64
 nt:t.nt<=16
 head:0<=t.head/\t.head<=4294967295
theorem LJ{t:Trk}(h:(cG t).1=0)(hi:EP t):PM t:=by
 have hk:=W5 h hi
 have hc:=hk.cols
 have hr:=hk.rows
 have h1:=hk.nh
 have h2:=hk.ng
 have w: ∀x:Int,-10000<=x->x<=10000->IntKind.i64.wrap x=x:=fun x _ _=>by rw [IntKind.wrap_i64];omega
 simp only [TU,gW] at hc hr h1 h2
 have m1:=A2 (a:=t.cols+1) (b:=t.rows+1) (N:=65) (M:=65) (by omega) (by omega) (by omega) (by omega)
 have m2:=A2 (a:=t.cols) (b:=t.rows) (N:=64) (M:=64) (by omega) (by omega) (by omega) (by omega)
 unfold nHs at h1
 unfold nGs at h2
 rw [w (t.cols+1) (by omega) (by omega),w (t.rows+1) (by omega) (by omega),w ((t.cols+1)*(t.rows+1)) (by omega) (by omega)] at h1
 rw [w (t.cols*t.rows) (by omega) (by omega)] at h2
 exact {
  gd:=⟨hc,hr,by rw [<- h1,<- Int.toNat_mul (by omega) (by omega),fz],by rw [<- h2,<- Int.toNat_mul (by omega) (by omega),fz],by
   have:=hk.kinds.2.1
   simp only [TU,gW] at this;omega⟩
  nl:=by have:=hk.line.2.1;simp only [TU,gW] at this;omega
  nr:=by have:=hk.rails.2.1;simp only [TU,gW] at this;omega
  rn:=fun i hi=>by
   have:=hk.rails.2.2 _ (aKT (f:=fun i=>lst (fun k=>(t.rx i k,t.ry i k)) (t.rn i)) hi)
   rw [gW] at this;omega
  nt:=by have:=hk.gates.2.1;simp only [TU,gW] at this;omega
  head:=hi.head}
theorem vR{t:Trk}(h:G7 t):(mU t).length<=700000:=by
 obtain ⟨⟨a1,a2⟩,⟨a3,a4⟩,a5,a6,a7⟩:=h
 have h1:=gH (w:=oE) (aJ (sI t.rate) cN)
 have h2:=gH (w:=n9) (aJ (eB t.cell) cN)
 have h3:=gH (w:=lT) (aJ (sI t.cols) (aJ (sI t.rows) cN))
 have h4:=gH (w:=iG) (aJ (eB t.cx) (aJ (eB t.cy) cN))
 have h5:=kO (f:=zY t.h (t.cols+1).toNat) (B:=5000) (fun i=>FF (f:=t.h) (r:=i) (by omega)) (t.rows+1).toNat 0
 have h6:=kO (f:=x7 t.g t.cols.toNat) (B:=5000) (fun i=>GX (f:=t.g) (r:=i) (by omega)) t.rows.toNat 0
 have h7:=kO (f:=vW t) (B:=200) (fun i=>by
  have:=gH (w:=iK) (aJ (eB (t.kg i)) (aJ (eB (t.kd i)) (aJ (RG (t.ko i)) cN)))
  rw [show iK.length=4 from rfl] at this
  simp only [az,bw] at this
  unfold vW;omega) t.nk 0
 rw [show oE.length=4 from rfl] at h1
 rw [show n9.length=4 from rfl] at h2
 rw [show lT.length=4 from rfl] at h3
 rw [show iG.length=6 from rfl] at h4
 simp only [az,bw] at h1 h2 h3 h4
 have e:mU t=lnW oE [aH t.rate]++lnW n9 [aC t.cell]++lnW lT [aH t.cols,aH t.rows]++lnW iG [aC t.cx,aC t.cy]++
  bL (zY t.h (t.cols+1).toNat) 0 (t.rows+1).toNat++bL (x7 t.g t.cols.toNat) 0 t.rows.toNat++bL (vW t) 0 t.nk:=rfl
 rw [e]
 simp only [au];omega
def LT(t:Trk)(i:Nat):List Int:=lnW gK [aC (t.lx i),aC (t.ly i)]
def FG(t:Trk)(i:Nat):List Int:=lnW fP (cY (t.rx i) (t.ry i) 0 (t.rn i))
def x9(t:Trk)(i:Nat):List Int:=lnW gS [aC (t.ax i),aC (t.ay i),aC (t.bx i),aC (t.sb i),gI (t.sp i)]
theorem DY(t:Trk):aID t=bL (LT t) 0 t.nl++bL (FG t) 0 t.nr++bL (x9 t) 0 t.nt++lnW gC [aC t.sx,aC t.sy,aH t.head]++lnW m9 [aH t.laps]:=rfl
theorem i6 {env:Env} {W:Nat->St->Option St} {fn:Func} {path:List Nat} {blk:Nat} {KK:Ex->St->Prop} (S:List Int->Int->St) (w:List Int) (p:Nat->List (List Int)) (n:Nat) (l0:List Int)
  (hn:n<=1000) (hw:bH w/\w.length<=100) (hp: ∀i,i<n->cW (p i)/\(p i).length<=200) (hl:l0.length<=100000000)
  (hr: ∀(i:Nat) (l:List Int),i<n->l.length<=200000000-> ∀X:St->Prop,(∀l',lZ l' l w (p i)->X (S l' ((i+1:Nat):Int)))->aF env W fn path blk (gM X KK) (S l (i:Int)))
  (he: ∀l,gZ l l0 (bL (fun i=>lnW w (p i)) 0 n)->l.length<=l0.length+n*10000-> ∀X:St->Prop,aF env W fn path blk (gM X KK) (S l (n:Int))):
  iter (aF env W fn path blk) KK (n+1) (S l0 ((0:Nat):Int)):=by
 refine iH (fun a:Nat×List Int=>S a.2 (a.1:Int)) (fun a=>n - a.1) (fun a=>(a.1<=n/\a.2=l0++bL (fun i=>lnW w (p i)) 0 a.1)/\a.2.length<=l0.length+a.1*10000) ?_ (n+1) (0,l0) ⟨⟨cn _,by show l0=l0++[];rw [cm]⟩,by show l0.length<=l0.length+0*10000;rw [ce];exact av _⟩ (by show n - 0<n+1;omega)
 rintro ⟨i,l⟩ ⟨⟨h1,h2⟩,h3⟩ X hX
 simp only at h1 h2 h3 hX|-
 by_cases hi:i<n
 ·refine hr i l hi (by omega) X fun l' hg=> ?_
  obtain ⟨o1,o2⟩:=hp i hi
  have hl':=nZ hg o1
  have hwl:=hw.2
  refine hX (i+1,l') ⟨⟨hi, ?_⟩,by show l'.length<=l0.length+(i+1)*10000;omega⟩ (by show n - (i+1)<n - i;omega)
  unfold lZ at hg
  rw [hg,h2,bo,lU,bi]
 ·obtain rfl:i=n:=by omega
  exact he l h2 h3 X
end Go.Se
namespace Go.Proofs.YtghnfjfkjhbgdaaGreatDoor
open Go.Se
set_option maxRecDepth 100000
def cRt :List SV->List (Option SB)->KC->Prop
 | [.agg cs],[],K=> ∃t:Trk,(cs=aI t/\g8 t)/\K (.tup [.int .i64 (cG t).1,.int .i64 (cG t).2]) [] []
 |_,_,_=>False
theorem TR(xs:List SV)(σ:List (Option SB)):Sat Tryz.prog 14 xs σ (cRt xs σ):=by
 intro K hK
 unfold cRt at hK
 split at hK
 case h_2=>exact hK.elim
 obtain ⟨t,⟨rfl,h⟩,hK⟩:=hK
 exact bS (env:=tab.env p12 (fun _=>0) (fun _=>false)) ⟨tab.htt,p12.ok⟩ tab.mixed (fun n=>aY n []) tab.hft 2 _ _ _ K (YB t h K hK)
noncomputable def n7 :bT Tryz.prog:=(n6).add 14 cRt TR
abbrev pnD :List Nat:=[0,1,2,3,4,5,6,7,8,9,10,11,12,13,14,15,16]
def pnR :List (Nat×eI×List ((Nat×List Nat)×Nat)):=[(0,⟨[1,6,7,28,29,30],[0,1,2,3],pnD,4,[]⟩,[((6,[1]),3)]),(2,⟨[1,6,7,41,42,43],[0,1,2,3],pnD,4,[]⟩,[((6,[1]),3)]),(4,⟨[1,6,7,53,54,55],[0,1,2,3],pnD,4,[]⟩,[((6,[1]),3)])]
noncomputable abbrev pnE :Env:=aFD pnR (fun _=>0) n7 3
noncomputable abbrev pnF :Func:=Tryz.f8
abbrev aAd :List Nat:=[1,1,1,1,1,0,1,0]
abbrev aA3 :List Nat:=[1,1,1,1,1,1,0,1,0]
abbrev YK :List Nat:=[1,1,1,1,1,1,1,0,1,0]
def pnS(a b c:Nat)(v:SV)(n:Nat)(t:Trk)(l:List Int)(i:Int):St:=⟨[(1,.ptr 0 0),(6,.ptr 1 0),(7,.ptr 2 0),(a,v),(b,.int .i64 n),(c,.int .i64 i)],[(0,some (.cells 34 (aI t))),(1,some (.cells sbT [.ptr 1 0,.own 3 0 1 l.length])),(2,some (.cells pgT [.ptr 1 0])),(3,some (.row 5 1 l.length (tG l)))],4,pnD,92⟩
def QQ(t:Trk)(l:List Int)(i:Int):St:=pnS 28 29 30 (.ro t.nl 2 (bA t.lx t.ly)) t.nl t l i
def NA(t:Trk)(l:List Int)(i:Int):St:=pnS 41 42 43 (.ro t.nr 1 (bN t)) t.nr t l i
def KB(t:Trk)(l:List Int)(i:Int):St:=pnS 53 54 55 (.ro t.nt 5 (fB t)) t.nt t l i
theorem aC3(t:Trk)(K:KC):EM pnR (fun _=>0) n7 4 8 [.agg (aI t)] [] K=
 (∃(e400:Trk),((aI t)=aI e400/\g8 e400)/\(Br ((cG e400).fst !=0) (K (SV.tup [SV.str (⟨#[]⟩:ByteArray),SV.int .i64 (cG e400).fst]) [] []) (∃(e397:Trk),((aI t)=aI e397/\G7 e397)/\(∀(l395:List Int),∀(_:gZ l395 [] (mU e397)),∃q_,aV pnE (cM pnR 0) pnF aAd 0 0 K q_ (QQ t l395 0))))):=by kernel_rfl
theorem aIx(t:Trk)(l:List Int)(i:Nat)(K:Ex->St->Prop):aF pnE (cM pnR 0) pnF aAd 0 K (QQ t l i)=
 (Br (decide ((↑i:Int)<(↑t.nl:Int))) (Br (decide (0<=(↑i:Int))&&decide ((↑i:Int)<(↑t.nl:Int))) (∃(e398:List Int),∃(e397:List (List Int)),∃(e396:List Int),(((⟨#[112,111,105,110,116]⟩:ByteArray)=bytesOf e398/\2=e397.length/\2=2/\cU (aG [aC (t.lx (↑i:Int).toNat),aC (t.ly (↑i:Int).toNat)]) e397)/\bO e398 e397/\l.length=e396.length/\l.length=e396.length/\tG l=tG e396/\e396.length<=1073741824)/\(∀(l394:List Int),∀(_:lZ l394 e396 e398 e397),K Ex.normal (QQ t l394 (IntKind.i64.wrap ((↑i:Int)+1))))) (False)) (K (Ex.exit 0) (QQ t l (↑i:Int)))):=by kernel_rfl
theorem aIq(t:Trk)(l:List Int)(i:Nat)(K:Ex->St->Prop):aF pnE (cM pnR 0) pnF aA3 2 K (NA t l i)=
 (Br (decide ((↑i:Int)<(↑t.nr:Int))) (Br (decide (0<=(↑i:Int))&&decide ((↑i:Int)<(↑t.nr:Int))) (∃(e398:Nat->Int),∃(e397:Nat->Int),(bA (t.rx (↑i:Int).toNat) (t.ry (↑i:Int).toNat)=bA e398 e397/\t.rn (↑i:Int).toNat<=1048576)/\(∃(e395:List Int),∃(e394:List (List Int)),∃(e393:List Int),(((⟨#[114,97,105,108]⟩:ByteArray)=bytesOf e395/\2*t.rn (↑i:Int).toNat=e394.length/\cU (aG (cY e398 e397 0 (t.rn (↑i:Int).toNat))) e394)/\bO e395 e394/\l.length=e393.length/\l.length=e393.length/\tG l=tG e393/\e393.length<=1073741824)/\(∀(l391:List Int),∀(_:lZ l391 e393 e395 e394),K Ex.normal (NA t l391 (IntKind.i64.wrap ((↑i:Int)+1)))))) (False)) (K (Ex.exit 2) (NA t l (↑i:Int)))):=by kernel_rfl
theorem aIF(t:Trk)(l:List Int)(i:Nat)(K:Ex->St->Prop):aF pnE (cM pnR 0) pnF YK 4 K (KB t l i)=
 (Br (decide ((↑i:Int)<(↑t.nt:Int))) (Br (decide (0<=(↑i:Int))&&decide ((↑i:Int)<(↑t.nt:Int))) (Br (t.sp (↑i:Int).toNat) (∃(e397:List Int),∃(e396:List (List Int)),∃(e395:List Int),(((⟨#[103,97,116,101]⟩:ByteArray)=bytesOf e397/\5=e396.length/\5=5/\cU (bK 4 [SV.str (⟨#[115,112,108,105,116]⟩:ByteArray)] (aG [aC (t.ax (↑i:Int).toNat),aC (t.ay (↑i:Int).toNat),aC (t.bx (↑i:Int).toNat),aC (t.sb (↑i:Int).toNat)])) e396)/\bO e397 e396/\l.length=e395.length/\l.length=e395.length/\tG l=tG e395/\e395.length<=1073741824)/\(∀(l393:List Int),∀(_:lZ l393 e395 e397 e396),K Ex.normal (KB t l393 (IntKind.i64.wrap ((↑i:Int)+1))))) (∃(e397:List Int),∃(e396:List (List Int)),∃(e395:List Int),(((⟨#[103,97,116,101]⟩:ByteArray)=bytesOf e397/\5=e396.length/\5=5/\cU (bK 4 [SV.str (⟨#[112,108,97,105,110]⟩:ByteArray)] (aG [aC (t.ax (↑i:Int).toNat),aC (t.ay (↑i:Int).toNat),aC (t.bx (↑i:Int).toNat),aC (t.sb (↑i:Int).toNat)])) e396)/\bO e397 e396/\l.length=e395.length/\l.length=e395.length/\tG l=tG e395/\e395.length<=1073741824)/\(∀(l393:List Int),∀(_:lZ l393 e395 e397 e396),K Ex.normal (KB t l393 (IntKind.i64.wrap ((↑i:Int)+1)))))) (False)) (K (Ex.exit 4) (KB t l (↑i:Int)))):=by kernel_rfl
theorem aLI(t:Trk)(l:List Int)(i:Nat)(K:KC):aB pnE (cM pnR 0) pnF aAd 0 K (.exit 0) (QQ t l i)=
 (∃q_,aV pnE (cM pnR 0) pnF aA3 2 0 K q_ (NA t l 0)):=by kernel_rfl
theorem aLJ(t:Trk)(l:List Int)(i:Nat)(K:KC):aB pnE (cM pnR 0) pnF aA3 0 K (.exit 2) (NA t l i)=
 (∃q_,aV pnE (cM pnR 0) pnF YK 4 0 K q_ (KB t l 0)):=by kernel_rfl
theorem aMr(t:Trk)(l:List Int)(i:Nat)(K:KC):aB pnE (cM pnR 0) pnF YK 0 K (.exit 4) (KB t l i)=
 (∃(e400:List Int),∃(e399:List (List Int)),∃(e398:List Int),(((⟨#[115,116,97,114,116]⟩:ByteArray)=bytesOf e400/\3=e399.length/\3=3/\cU (bK 2 [SV.str (bytesOf (aH (IntKind.i64.wrap t.head)))] (aG [aC t.sx,aC t.sy])) e399)/\bO e400 e399/\l.length=e398.length/\l.length=e398.length/\tG l=tG e398/\e398.length<=1073741824)/\(∀(l396:List Int),∀(_:lZ l396 e398 e400 e399),∃(e394:List Int),∃(e393:List (List Int)),∃(e392:List Int),(((⟨#[108,97,112,115]⟩:ByteArray)=bytesOf e394/\1=e393.length/\1=1/\cU (aG [aH t.laps]) e393)/\bO e394 e393/\l396.length=e392.length/\l396.length=e392.length/\tG l396=tG e392/\e392.length<=1073741824)/\(∀(l390:List Int),∀(_:lZ l390 e392 e394 e393),Br (decide (0<l390.length)) ((∀(i:Nat),i<(↑l390.length:Int).toNat->uU (tG l390 i)=true)/\(Br (decide (0<(↑l390.length:Int))&&decide ((↑l390.length:Int)<=(↑l390.length:Int))&&decide ((↑l390.length:Int)<9223372036854775808)) (K (SV.tup [SV.str (bytesOf (oR (↑l390.length:Int).toNat (tG l390))),SV.int .i64 0]) [] []) (False))) (False)))):=by kernel_rfl
theorem aMX(t:Trk)(h:PM t)(b0:List Int)(hb:b0.length<=90000000)(i:Nat)(K:KC)(hK: ∀l:List Int,gZ l b0 (lnW gC [aC t.sx,aC t.sy,aH t.head]++lnW m9 [aH t.laps])->K (.tup [.str (bytesOf l),.int .i64 0]) [] []):
  aB pnE (cM pnR 0) pnF YK 0 K (.exit 4) (KB t b0 i):=by
 have k1:cW [aC t.sx,aC t.sy,aH t.head]:=aJ (eB _) (aJ (eB _) (aJ (sI _) cN))
 have k2:cW [aH t.laps]:=aJ (sI _) cN
 have hw:IntKind.i64.wrap t.head=t.head:=by have:=h.head;rw [fK];omega
 rw [aMr,hw]
 refine ⟨gC,_,b0,⟨⟨rfl,rfl,rfl,aA4⟩,bP (bD rfl) k1 (de _) (by simp),rfl,rfl,rfl,by omega⟩,fun l1 g1=> ?_⟩
 have e1:=nZ g1 k1
 rw [show gC.length=5 from rfl] at e1
 simp only [az,bw] at e1
 refine ⟨m9,_,l1,⟨⟨rfl,rfl,rfl,dR _⟩,bP (bD rfl) k2 (de _) (by simp),rfl,rfl,rfl,by omega⟩,fun l2 g2=> ?_⟩
 have e2:=nZ g2 k2
 rw [show m9.length=4 from rfl] at e2
 simp only [az,bw] at e2
 unfold lZ at g1 g2
 have e3:0<l2.length:=by rw [g2,au];exact dm (bP (bD rfl) k2 (de _) (by simp)).pos (Nat.le_add_left _ _)
 refine Br.of (fun _=>⟨fun _ _=>rfl,Br.of (fun _=> ?_) fun c=>absurd c (by simp;omega)⟩) fun c=>absurd e3 (ae c)
 rw [am,aGK]
 refine hK l2 ?_
 unfold gZ
 rw [g2,g1,bo]
theorem aME(t:Trk)(h:PM t)(b0:List Int)(hb:b0.length<=80000000)(i:Nat)(K:KC)(hK: ∀l:List Int,gZ l b0 (bL (x9 t) 0 t.nt++(lnW gC [aC t.sx,aC t.sy,aH t.head]++lnW m9 [aH t.laps]))->K (.tup [.str (bytesOf l),.int .i64 0]) [] []):
  aB pnE (cM pnR 0) pnF aA3 0 K (.exit 2) (NA t b0 i):=by
 have hn:=h.nt
 rw [aLJ]
 refine ⟨t.nt+1, ?_⟩
 show iter (aF pnE (cM pnR 0) pnF YK 4) (aB pnE (cM pnR 0) pnF YK 0 K) (t.nt+1) (KB t b0 ((0:Nat):Int))
 refine i6 (fun l i=>KB t l i) gS (fun i=>[aC (t.ax i),aC (t.ay i),aC (t.bx i),aC (t.sb i),gI (t.sp i)]) t.nt b0 (by omega) (bD rfl) (fun i _=>⟨aJ (eB _) (aJ (eB _) (aJ (eB _) (aJ (eB _) (aJ (JH _) cN)))),by simp⟩) (by omega) (fun i l hi hl X hX=> ?_) fun l hl hle X=> ?_
 ·have hok:cW [aC (t.ax i),aC (t.ay i),aC (t.bx i),aC (t.sb i),gI (t.sp i)]:=aJ (eB _) (aJ (eB _) (aJ (eB _) (aJ (eB _) (aJ (JH _) cN))))
  rw [aIF,aK hi (by omega),am]
  refine Br.of (fun _=>Br.of (fun _=>Br.of (fun c=> ?_) fun c=> ?_) fun c=>eA hi c) fun c=>iI hi c
  ·rw [c] at hok hX
   exact ⟨gS,[aC (t.ax i),aC (t.ay i),aC (t.bx i),aC (t.sb i),gI true],l,⟨⟨rfl,rfl,rfl,aGu (e:=gI true)⟩,bP (bD rfl) hok (de _) (by simp),rfl,rfl,rfl,by omega⟩,fun l' hg=>hX l' hg⟩
  ·rw [c] at hok hX
   exact ⟨gS,[aC (t.ax i),aC (t.ay i),aC (t.bx i),aC (t.sb i),gI false],l,⟨⟨rfl,rfl,rfl,aGu (e:=gI false)⟩,bP (bD rfl) hok (de _) (by simp),rfl,rfl,rfl,by omega⟩,fun l' hg=>hX l' hg⟩
 ·rw [aIF]
  refine Br.of (fun c=>g7 c) fun _=> ?_
  refine aMX t h l (by omega) t.nt K fun l' hl'=>hK l' ?_
  unfold gZ at hl hl'|-
  rw [hl',hl,bo];rfl
theorem aMN(t:Trk)(h:PM t)(b0:List Int)(hb:b0.length<=70000000)(i:Nat)(K:KC)(hK: ∀l:List Int,gZ l b0 (bL (FG t) 0 t.nr++(bL (x9 t) 0 t.nt++(lnW gC [aC t.sx,aC t.sy,aH t.head]++lnW m9 [aH t.laps])))->K (.tup [.str (bytesOf l),.int .i64 0]) [] []):
  aB pnE (cM pnR 0) pnF aAd 0 K (.exit 0) (QQ t b0 i):=by
 have hn:=h.nr
 rw [aLI]
 refine ⟨t.nr+1, ?_⟩
 show iter (aF pnE (cM pnR 0) pnF aA3 2) (aB pnE (cM pnR 0) pnF aA3 0 K) (t.nr+1) (NA t b0 ((0:Nat):Int))
 refine i6 (fun l i=>NA t l i) fP (fun i=>cY (t.rx i) (t.ry i) 0 (t.rn i)) t.nr b0 (by omega) (bD rfl) (fun i hi=>⟨lQ _ _ _ _,by have:=h.rn i hi;rw [eU];omega⟩) (by omega) (fun i l hi hl X hX=> ?_) fun l hl hle X=> ?_
 ·have hrn:=h.rn i hi
  rw [aIq,aK hi (by omega),am]
  refine Br.of (fun _=>Br.of (fun _=> ?_) fun c=>eA hi c) fun c=>iI hi c
  exact ⟨t.rx i,t.ry i,⟨rfl,by omega⟩,fP,_,l,⟨⟨rfl,(eU _ _ _ _).symm,dR _⟩,bP (bD rfl) (lQ _ _ _ _) (by rw [eU];omega) (by rw [eU];omega),rfl,rfl,rfl,by omega⟩,fun l' hg=>hX l' hg⟩
 ·rw [aIq]
  refine Br.of (fun c=>g7 c) fun _=> ?_
  refine aME t h l (by omega) t.nr K fun l' hl'=>hK l' ?_
  unfold gZ at hl hl'|-
  rw [hl',hl,bo];rfl
def kB(t:Trk):ByteArray:=bif (cG t).1 !=0 then ⟨#[]⟩ else bytesOf (xA t)
theorem aJK(t:Trk)(hs:g8 t)(hi:EP t)(K:KC)(hK:K (.tup [.str (kB t),.int .i64 (cG t).1]) [] []):
  EM pnR (fun _=>0) n7 4 8 [.agg (aI t)] [] K:=by
 rw [aC3]
 refine ⟨t,⟨rfl,hs⟩,Br.of (fun c=> ?_) fun c=> ?_⟩
 ·unfold kB at hK;rw [c] at hK;exact hK
 have h0:(cG t).1=0:=dt.1 c
 have h:=LJ h0 hi
 have hn:=h.nl
 refine ⟨t,⟨rfl,h.gd⟩,fun l0 g0=>⟨t.nl+1, ?_⟩⟩
 have hl0:l0.length<=700000:=by unfold gZ at g0;rw [g0,dj];exact vR h.gd
 show iter (aF pnE (cM pnR 0) pnF aAd 0) (aB pnE (cM pnR 0) pnF aAd 0 K) (t.nl+1) (QQ t l0 ((0:Nat):Int))
 refine i6 (fun l i=>QQ t l i) gK (fun i=>[aC (t.lx i),aC (t.ly i)]) t.nl l0 (by omega) (bD rfl) (fun i _=>⟨aJ (eB _) (aJ (eB _) cN),by simp⟩) (by omega) (fun i l hi hl X hX=> ?_) fun l hl hle X=> ?_
 ·have hok:cW [aC (t.lx i),aC (t.ly i)]:=aJ (eB _) (aJ (eB _) cN)
  rw [aIx,aK hi (by omega),am]
  refine Br.of (fun _=>Br.of (fun _=> ?_) fun c=>eA hi c) fun c=>iI hi c
  exact ⟨gK,_,l,⟨⟨rfl,rfl,rfl,dR _⟩,bP (bD rfl) hok (de _) (by simp),rfl,rfl,rfl,by omega⟩,fun l' hg=>hX l' hg⟩
 ·rw [aIx]
  refine Br.of (fun c=>g7 c) fun _=> ?_
  refine aMN t h l (by omega) t.nl K fun l' hl'=> ?_
  unfold kB at hK
  rw [c,h0] at hK
  have:l'=xA t:=by
   unfold gZ at g0 hl hl'
   unfold xA
   rw [hl',hl,g0,DY,dj]
   simp only [bo];rfl
  rw [this];exact hK
def cPr :List SV->List (Option SB)->KC->Prop
 | [.agg cs],[],K=> ∃t:Trk,(cs=aI t/\g8 t)/\K (.tup [.str (kB t),.int .i64 (cG t).1]) [] []
 |_,_,_=>False
theorem aKG(xs:List SV)(σ:List (Option SB)):Sat Tryz.prog 8 xs σ (cPr xs σ):=by
 intro K hK
 unfold cPr at hK
 split at hK
 case h_2=>exact hK.elim
 obtain ⟨t,⟨rfl,hs⟩,hK⟩:=hK
 exact ⟨_,_,_,hK,C3 pnR (fun _=>0) n7 4 (fun p h=>by cases h) fun hok _ K hK=>aJK t hs (O0 hok.1) K (hK _ fun _ h=>h)⟩
end Go.Proofs.YtghnfjfkjhbgdaaGreatDoor
namespace Go.Se
def AL(all:Int)(b:Bk):((Int×Int)×Int)×Bk:=
 let p:=lnV b (ba gC) 3
 let s:=plP (lnB all b (ba gC) 3) p 0
 ((s.1,mX s.2 (rl (p.getD 2 [])) 0 4294967295),kR s.2 (rl (p.getD 2 [])) 0 4294967295)
def PA(all:Int)(t:TL)(b:Bk):TL×Bk:=
 let l:=dW (ba gK) (iJ all) 64 ([],b)
 let r:=dW (ba fP) (iF all) 16 ([],l.2)
 let g:=dW (ba gS) (kU all) 16 ([],r.2)
 let s:=AL all g.2
 let n:=K0 all (ba m9) 1 100 s.2
 (⟨t.rate,t.cell,t.cols,t.rows,t.corner,t.heights,t.ground,t.kinds,l.1,r.1,g.1,s.1.1,s.1.2,n.1⟩,n.2)
def kY(all:Int)(b:Bk):TL×Bk:=PA all (jZ all b).1 (jZ all b).2
def sA(l:List Int):TL×Int×Int:=
 bif LS (kY (uO l) (lX l)).2 !=0 then (TL.zero,LS (kY (uO l) (lX l)).2,OH (kY (uO l) (lX l)).2) else
 bif (cG (kY (uO l) (lX l)).1.trk).1 !=0 then (TL.zero,(cG (kY (uO l) (lX l)).1.trk).1,0) else ((kY (uO l) (lX l)).1,0,0)
def aG2(l:List Int)(t:TL)(e at':Int):Prop:=(t,e,at')=sA l
theorem XX{all:Int}{b:Bk}(h:aR b):aR (AL all b).2:=(aR.take h).num.num.int
theorem aAb{all:Int}{b:Bk}(h:aR b):(iF all b).1.length<=64:=by
 unfold iF
 simp only
 cases hc:iT b (ba fP) 2 128 with
 |true=>
  simp only [ar,bw]
  exact cn _
 |false=>
  have:=JS h hc
  simp only [ap]
  cases (kE b).length%2==1
  ·simp only [ap,GG];omega
  ·exact cn _
theorem PH{α:Type}{w:ByteArray}{one:Bk->α×Bk}{P:α->Prop}(h1: ∀b,aR b->aR (one b).2)(hP: ∀b,aR b->P (one b).1): ∀(n:Nat) (s:List α×Bk),aR s.2->(∀x,x∈s.1->P x)-> ∀x,x∈(dW w one n s).1->P x
 |0,_,_,h=>h
 |n+1,s,hb,h=>by
  unfold dW
  cases iE s.2 w
  ·exact h
  ·refine PH h1 hP n _ (h1 _ hb) fun x hx=> ?_
   rcases ct.1 hx with hx|hx
   ·exact h x hx
   ·rw [aq.1 hx];exact hP _ hb
theorem aEW{t:TL}(h1:t.rails.length<=16)(h2: ∀l,l∈t.rails->l.length<=64):g8 t.trk:=by
 refine ⟨by show t.rails.length<=20;omega,fun i hi=> ?_⟩
 have hi:i<t.rails.length:=hi
 show aFZ (aU raL [] t.rails i)<=100
 rw [eN hi]
 have:=h2 _ (List.getElem_mem hi)
 show (t.rails[i]).length<=100
 omega
theorem ZH(b:Bk)(l:List Int):IntKind.u32.wrap (mX b l 0 4294967295)=mX b l 0 4294967295:=by
 have:0<=mX b l 0 4294967295/\mX b l 0 4294967295<=4294967295:=by
  rcases FP (b:=b) (l:=l) (lo:=0) (hi:=4294967295) with h|h
  ·rw [h.1];exact ⟨by decide,by decide⟩
  ·exact h
 rw [IntKind.wrap_u32];omega
theorem aBy{l:List Int}(h:aBh (fR l)):dH (uO l):=⟨by unfold uO;omega,by have:=h.len;unfold uO;omega⟩
end Go.Se
namespace Go.Proofs.YtghnfjfkjhbgdaaGreatDoor
open Go.Se
set_option maxRecDepth 100000
noncomputable def o6 :bT Tryz.prog:=((o5).add 32 (CN ugV (isF jZ)) aJu).add 14 cRt TR
theorem aLC(s:ByteArray)(K:KC):run o6 4 11 [.str s] [] K=
 (Br (decide (s.size<=1048576)) (∃(e399:Bk),∃(e398:Int),([SV.ro (lX (aD s)).q.length 2 (qG (lX (aD s)).q),SV.int .i64 (uO (aD s)),SV.int .i64 (lX (aD s)).last,SV.int .i64 (lX (aD s)).err,SV.int .i64 (lX (aD s)).place]=bkC e398 e399/\aR e399/\dH e398)/\(∀(x396:TL),∀(b'395:Bk),∀(_:isF jZ e398 e399 x396 b'395),∃(e393:Bk),∃(e392:Int),∃(e391:Nat),(((bkC e398 b'395)=bkC e392 e393/\64=(↑e391:Int)/\34=34)/\aR e393/\dH e392/\e391<=1000)/\(∀(L389:List (Int×Int)),∀(b'388:Bk),∀(_:VG (⟨#[112,111,105,110,116]⟩:ByteArray) (iJ e392) e391 e393 L389 b'388),∃(e386:Bk),∃(e385:Int),∃(e384:Nat),(((bkC e392 b'388)=bkC e385 e386/\16=(↑e384:Int)/\36=36)/\aR e386/\dH e385/\e384<=1000)/\(∀(L382:List (List (Int×Int))),∀(b'381:Bk),∀(_:VG (⟨#[114,97,105,108]⟩:ByteArray) (iF e385) e384 e386 L382 b'381),∃(e379:Bk),∃(e378:Int),∃(e377:Nat),(((bkC e385 b'381)=bkC e378 e379/\16=(↑e377:Int)/\38=38)/\aR e379/\dH e378/\e377<=1000)/\(∀(L375:List (Int×Int×Int×Int×Bool)),∀(b'374:Bk),∀(_:VG (⟨#[103,97,116,101]⟩:ByteArray) (kU e378) e377 e379 L375 b'374),∃(e372:Bk),∃(e371:Int),∃(e370:Nat),(((bkC e378 b'374)=bkC e371 e372/\3=(↑e370:Int))/\aR e372/\dH e371/\0<e370/\e370<=1000)/\(∀(p368:List (List Int)),∀(b'367:Bk),∀(_:xX e371 e372 (⟨#[115,116,97,114,116]⟩:ByteArray) e370 p368 b'367),∃(e365:List (List Int)),∃(e364:Bk),∃(e363:Int),((bkC e371 b'367)=bkC e363 e364/\aG p368=aG e365/\2<=e370)/\(∀(x361:Int),∀(y360:Int),∀(b'359:Bk),∀(_:OO e364 e365 x361 y360 b'359),Br (true&&decide (2<(↑e370:Int))) (∃(e356:Bk),∃(e355:Int),((bkC e363 b'359)=bkC e355 e356)/\(∀(v353:Int),∀(b'352:Bk),∀(_:RE e356 (bytesOf (p368.getD (Int.toNat 2) [])) 0 4294967295 v353 b'352),∃(e350:Bk),∃(e349:Int),∃(e348:Nat),(((bkC e355 b'352)=bkC e349 e350/\1=(↑e348:Int))/\aR e350/\dH e349/\0<e348/\e348<=1000)/\(∀(p346:List (List Int)),∀(b'345:Bk),∀(_:xX e349 e350 (⟨#[108,97,112,115]⟩:ByteArray) e348 p346 b'345),Br (true&&decide (0<(↑e348:Int))) (∃(e342:Bk),∃(e341:Int),((bkC e349 b'345)=bkC e341 e342)/\(∀(v339:Int),∀(b'338:Bk),∀(_:RE e342 (bytesOf (p346.getD (Int.toNat 0) [])) 1 100 v339 b'338),∃(e336:Bk),∃(e335:Int),((bkC e341 b'338)=bkC e335 e336)/\(Br (LS e336 !=0) (K (SV.tup [SV.agg [SV.int .i64 0,SV.int .i64 0,SV.int .i64 0,SV.int .i64 0,SV.int .i64 0,SV.int .i64 0,SV.nils,SV.nils,SV.nils,SV.nils,SV.nils,SV.nils,SV.int .i64 0,SV.int .i64 0,SV.int .u32 0,SV.int .i64 0],SV.int .i64 (LS e336),SV.int .i64 (OH e336)]) [] []) (∃(e332:Trk),([SV.int .i64 x396.rate,SV.int .i64 x396.cell,SV.int .i64 x396.cols,SV.int .i64 x396.rows,SV.int .i64 x396.corner.fst,SV.int .i64 x396.corner.snd,SV.ro x396.heights.length 1 (aU cV 0 x396.heights),SV.ro x396.ground.length 1 (aU cV 0 x396.ground),SV.ro x396.kinds.length 3 (aU kiL (0,0,false) x396.kinds),SV.ro L389.length 2 (aU plL (0,0) L389),SV.ro L382.length 1 (aU raL [] L382),SV.ro L375.length 5 (aU gaL (0,0,0,0,false) L375),SV.int .i64 x361,SV.int .i64 y360,SV.int .u32 (IntKind.u32.wrap v353),SV.int .i64 v339]=aI e332/\g8 e332)/\(Br ((cG e332).fst !=0) (K (SV.tup [SV.agg [SV.int .i64 0,SV.int .i64 0,SV.int .i64 0,SV.int .i64 0,SV.int .i64 0,SV.int .i64 0,SV.nils,SV.nils,SV.nils,SV.nils,SV.nils,SV.nils,SV.int .i64 0,SV.int .i64 0,SV.int .u32 0,SV.int .i64 0],SV.int .i64 (cG e332).fst,SV.int .i64 0]) [] []) (K (SV.tup [SV.agg [SV.int .i64 x396.rate,SV.int .i64 x396.cell,SV.int .i64 x396.cols,SV.int .i64 x396.rows,SV.int .i64 x396.corner.fst,SV.int .i64 x396.corner.snd,SV.ro x396.heights.length 1 (aU cV 0 x396.heights),SV.ro x396.ground.length 1 (aU cV 0 x396.ground),SV.ro x396.kinds.length 3 (aU kiL (0,0,false) x396.kinds),SV.ro L389.length 2 (aU plL (0,0) L389),SV.ro L382.length 1 (aU raL [] L382),SV.ro L375.length 5 (aU gaL (0,0,0,0,false) L375),SV.int .i64 x361,SV.int .i64 y360,SV.int .u32 (IntKind.u32.wrap v353),SV.int .i64 v339],SV.int .i64 0,SV.int .i64 0]) [] [])))))) (False)))) (False)))))))) (False)):=by kernel_rfl
abbrev zC :List SV:=[.int .i64 0,.int .i64 0,.int .i64 0,.int .i64 0,.int .i64 0,.int .i64 0,.nils,.nils,.nils,.nils,.nils,.nils,.int .i64 0,.int .i64 0,.int .u32 0,.int .i64 0]
theorem aEK(t:TL):[SV.int .i64 t.rate,SV.int .i64 t.cell,SV.int .i64 t.cols,SV.int .i64 t.rows,SV.int .i64 t.corner.1,SV.int .i64 t.corner.2,SV.ro t.heights.length 1 (aU cV 0 t.heights),SV.ro t.ground.length 1 (aU cV 0 t.ground),SV.ro t.kinds.length 3 (aU kiL (0,0,false) t.kinds),SV.ro t.line.length 2 (aU plL (0,0) t.line),SV.ro t.rails.length 1 (aU raL [] t.rails),SV.ro t.gates.length 5 (aU gaL (0,0,0,0,false) t.gates),SV.int .i64 t.start.1,SV.int .i64 t.start.2,SV.int .u32 t.head,SV.int .i64 t.laps]=aI t.trk:=
 i5 t.shape _ _ _ _ _ _ _ _ _ _ _ _ _ _ _ _
theorem aKV (s:ByteArray) (hs:s.size<=1048576) (K:KC)
  (hK:(∀e a,sA (aD s)=(TL.zero,e,a)->K (.tup [.agg zC,.int .i64 e,.int .i64 a]) [] [])/\ ∀t,sA (aD s)=(t,0,0)->K (.tup [.agg (aI t.trk),.int .i64 0,.int .i64 0]) [] []):
  run o6 4 11 [.str s] [] K:=by
 have hL:=E2 hs
 have hb:=Y6 hL
 have ha:=aBy hL
 rw [aLC]
 refine Br.of (fun _=>⟨lX (aD s),uO (aD s),⟨rfl,hb,ha⟩,fun x b0 h0=> ?_⟩) fun c=>absurd hs (ae c)
 have hk0:aR b0:=by rw [(pR h0).2];exact SP hb
 have hrest:kY (uO (aD s)) (lX (aD s))=PA (uO (aD s)) x b0:=by unfold kY;rw [(pR h0).1,(pR h0).2]
 unfold sA at hK
 rw [hrest] at hK
 clear hrest h0
 generalize uO (aD s)=all at*
 refine ⟨b0,all,64,⟨⟨rfl,rfl,rfl⟩,hk0,ha,by decide⟩,fun L1 b1 h1=> ?_⟩
 have e1:dW (ba gK) (iJ all) 64 ([],b0)=(L1,b1):=Eq.symm h1
 have k1:aR b1:=by have:=vI (w:=ba gK) (fun b h=>IY (all:=all) (b:=b) h) 64 ([],b0) hk0;rw [e1] at this;exact this
 refine ⟨b1,all,16,⟨⟨rfl,rfl,rfl⟩,k1,ha,by decide⟩,fun L2 b2 h2=> ?_⟩
 have e2:dW (ba fP) (iF all) 16 ([],b1)=(L2,b2):=Eq.symm h2
 have k2:aR b2:=by have:=vI (w:=ba fP) (fun b h=>DP (all:=all) (b:=b) h) 16 ([],b1) k1;rw [e2] at this;exact this
 have l2:L2.length<=16:=by have:=J0 (w:=ba fP) (one:=iF all) 16 ([],b1);rw [e2] at this;simpa using this
 have m2: ∀l,l∈L2->l.length<=64:=by have:=PH (w:=ba fP) (one:=iF all) (P:=fun l=>l.length<=64) (fun b h=>DP h) (fun b h=>aAb h) 16 ([],b1) k1 (fun x hx=>by cases hx);rw [e2] at this;exact this
 refine ⟨b2,all,16,⟨⟨rfl,rfl,rfl⟩,k2,ha,by decide⟩,fun L3 b3 h3=> ?_⟩
 have e3:dW (ba gS) (kU all) 16 ([],b2)=(L3,b3):=Eq.symm h3
 have k3:aR b3:=by have:=vI (w:=ba gS) (fun b h=>OX (all:=all) (b:=b) h) 16 ([],b2) k2;rw [e3] at this;exact this
 refine ⟨b3,all,3,⟨⟨rfl,rfl⟩,k3,ha,by decide,by decide⟩,fun p4 b4 h4=>⟨p4,b4,all,⟨rfl,rfl,by decide⟩,fun x4 y4 b5 h5=>⟨b5,all,rfl,fun v5 b6 h6=> ?_⟩⟩⟩
 obtain ⟨⟨rfl,_⟩,rfl⟩:=h4
 obtain ⟨hxy,rfl⟩:=h5
 obtain ⟨hv5,hb6⟩:=h6
 have e4:AL all b3=(((x4,y4),v5),b6):=by rw [hxy,hv5,hb6];rfl
 have k4:aR b6:=by have:=XX (all:=all) k3;rw [e4] at this;exact this
 have w4:IntKind.u32.wrap v5=v5:=by rw [hv5];exact ZH _ _
 clear hxy hv5 hb6
 refine ⟨b6,all,1,⟨⟨rfl,rfl⟩,k4,ha,by decide,by decide⟩,fun p6 b7 h7=>⟨b7,all,rfl,fun v6 b8 h8=>⟨b8,all,rfl, ?_⟩⟩⟩
 obtain ⟨⟨rfl,_⟩,rfl⟩:=h7
 obtain ⟨hv6,hb8⟩:=h8
 have e5:K0 all (ba m9) 1 100 b6=(v6,b8):=by rw [hv6,hb8];rfl
 clear hv6 hb8
 have hr:PA all x b0=(⟨x.rate,x.cell,x.cols,x.rows,x.corner,x.heights,x.ground,x.kinds,L1,L2,L3,(x4,y4),v5,v6⟩,b8):=by
  unfold PA
  rw [e1];simp only
  rw [e2];simp only
  rw [e3];simp only
  rw [e4];simp only
  rw [e5]
 rw [hr] at hK
 simp only at hK
 rw [w4]
 generalize ht:(⟨x.rate,x.cell,x.cols,x.rows,x.corner,x.heights,x.ground,x.kinds,L1,L2,L3,(x4,y4),v5,v6⟩:TL)=t at hK
 have hsm:g8 t.trk:=aEW (by rw [<- ht];exact l2) (by rw [<- ht];exact m2)
 have hc:[SV.int .i64 x.rate,SV.int .i64 x.cell,SV.int .i64 x.cols,SV.int .i64 x.rows,SV.int .i64 x.corner.fst,SV.int .i64 x.corner.snd,SV.ro x.heights.length 1 (aU cV 0 x.heights),SV.ro x.ground.length 1 (aU cV 0 x.ground),SV.ro x.kinds.length 3 (aU kiL (0,0,false) x.kinds),SV.ro L1.length 2 (aU plL (0,0) L1),SV.ro L2.length 1 (aU raL [] L2),SV.ro L3.length 5 (aU gaL (0,0,0,0,false) L3),SV.int .i64 x4,SV.int .i64 y4,SV.int .u32 v5,SV.int .i64 v6]=aI t.trk:=by
  rw [<- ht]
  exact aEK ⟨x.rate,x.cell,x.cols,x.rows,x.corner,x.heights,x.ground,x.kinds,L1,L2,L3,(x4,y4),v5,v6⟩
 rw [hc]
 refine Br.of (fun c=> ?_) fun c=>⟨t.trk,⟨rfl,hsm⟩,Br.of (fun c2=> ?_) fun c2=> ?_⟩
 ·rw [c] at hK;exact hK.1 _ _ rfl
 ·rw [c,c2] at hK;exact hK.1 _ _ rfl
 ·rw [c,c2] at hK;exact hK.2 _ rfl
theorem aKq{ρ:aL}{T:Nat->Prop}{w:World}{v:Value}(hv:rel ρ T w (.agg zC) v):rel ρ T w (.agg (aI TL.zero.trk)) v:=by
 obtain ⟨a,rfl,v1,l1,z1,q1,v2,l2,z2,q2,v3,l3,z3,q3,v4,l4,z4,q4,v5,l5,z5,q5,v6,l6,z6,q6,v7,l7,z7,q7,v8,l8,z8,q8,v9,l9,z9,q9,v10,l10,z10,q10,v11,l11,z11,q11,v12,l12,z12,q12,q13⟩:=hv
 exact ⟨a,rfl,v1,l1,z1,q1,v2,l2,z2,q2,v3,l3,z3,q3,v4,l4,z4,q4,v5,l5,z5,q5,v6,l6,z6,q6,v7,l7,z7,iP q7,v8,l8,z8,iP q8,v9,l9,z9,iP q9,v10,l10,z10,iP q10,v11,l11,z11,iP q11,v12,l12,z12,iP q12,q13⟩
theorem aJ1(s:ByteArray)(hs:s.size<=1048576):aE Tryz.prog 11 [.str s] [] (.tup [.agg (aI (sA (aD s)).1.trk),.int .i64 (sA (aD s)).2.1,.int .i64 (sA (aD s)).2.2]) [] []:=by
 obtain ⟨v,σ',d,hv,hc⟩:=bS (env:=tab.env o6 (fun _=>0) (fun _=>false)) ⟨tab.htt,o6.ok⟩ tab.mixed (fun n=>aY n []) tab.hft 4 _ _ _
  (fun v σ' d=>((∃e a,sA (aD s)=(TL.zero,e,a)/\v= .tup [.agg zC,.int .i64 e,.int .i64 a])\/ ∃t,sA (aD s)=(t,0,0)/\v= .tup [.agg (aI t.trk),.int .i64 0,.int .i64 0])/\σ'=[]/\d=[])
  (aKV s hs _ ⟨fun e a h=>⟨.inl ⟨e,a,h,rfl⟩,rfl,rfl⟩,fun t h=>⟨.inr ⟨t,h,rfl⟩,rfl,rfl⟩⟩)
 obtain ⟨hv,rfl,rfl⟩:=hv
 rcases hv with ⟨e,a,h,rfl⟩|⟨t,h,rfl⟩
 ·rw [h]
  exact sY (v:= .tup [.agg zC,.int .i64 e,.int .i64 a]) (fun ρ T w z ⟨x,e1,v1,l1,e2,q1,q2⟩=>⟨x,e1,v1,l1,e2,aKq q1,q2⟩) hc
 ·rw [h];exact hc
def cPa :List SV->List (Option SB)->KC->Prop
 | [.str s],[],K=>s.size<=1048576/\ ∀t e a,aG2 (aD s) t e a->K (.tup [.agg (aI t.trk),.int .i64 e,.int .i64 a]) [] []
 |_,_,_=>False
theorem aF6(xs:List SV)(σ:List (Option SB)):Sat Tryz.prog 11 xs σ (cPa xs σ):=by
 intro K hK
 unfold cPa at hK
 split at hK
 case h_2=>exact hK.elim
 exact ⟨_,_,_,hK.2 _ _ _ rfl,aJ1 _ hK.1⟩
noncomputable def o7 :bT Tryz.prog:=((o6).add 11 cPa aF6).add 8 cPr aKG
theorem aJF(x l h:Int)(K:KC):run q5 2 108 [.int .i64 x,.int .i64 l,.int .i64 h] [] K=
 (Br (decide (x>=l)) (K (SV.bool (decide (x<=h))) [] []) (K (SV.bool false) [] [])):=by kernel_rfl
theorem oT(x l h:Int):aE Tryz.prog 108 [.int .i64 x,.int .i64 l,.int .i64 h] [] (.bool (inR x l h)) [] []:=
 aS q5 2 fun _ _ K hK=>by rw [aJF];exact aMT hK
def aL5 :List SV->List (Option SB)->Out
 | [.int .i64 x,.int .i64 l,.int .i64 h],[]=>some (.bool (inR x l h),[],[])
 |_,_=>none
theorem aG4(x y:Int)(K:KC):run q5 2 111 [.agg [.int .i64 x,.int .i64 y]] [] K=
 (Br (decide (x>140737488355328)) (K (SV.bool true) [] []) (Br (decide (x< -140737488355328)) (K (SV.bool true) [] []) (Br (decide (y>140737488355328)) (K (SV.bool true) [] []) (K (SV.bool (decide (y< -140737488355328))) [] [])))):=by kernel_rfl
theorem lI(x y:Int):aE Tryz.prog 111 [.agg [.int .i64 x,.int .i64 y]] [] (.bool (jG x y)) [] []:=
 aS q5 2 fun _ _ K hK=>by
  rw [aG4];simp only [qP];refine NY hK ?_
  unfold jG;grind
def aIj :List SV->List (Option SB)->Out
 | [.agg [.int .i64 x,.int .i64 y]],[]=>some (.bool (jG x y),[],[])
 |_,_=>none
theorem U9(t:Trk)(K:KC):run q5 2 107 [.agg (aI t)] [] K=
 (Br (decide (t.cols<1)) (K (SV.bool false) [] []) (Br (decide (t.cols>64)) (K (SV.bool false) [] []) (Br (decide (t.rows<1)) (K (SV.bool false) [] []) (Br (decide (t.rows>64)) (K (SV.bool false) [] []) (Br ((↑t.nh:Int)==IntKind.i64.wrap (IntKind.i64.wrap (t.cols+1)*IntKind.i64.wrap (t.rows+1))) (Br ((↑t.ng:Int)==IntKind.i64.wrap (t.cols*t.rows)) (Br (decide ((↑t.nk:Int)>=1)) (K (SV.bool (decide ((↑t.nk:Int)<=8))) [] []) (K (SV.bool false) [] [])) (K (SV.bool false) [] [])) (K (SV.bool false) [] [])))))):=by kernel_rfl
theorem SC(t:Trk):aE Tryz.prog 107 [.agg (aI t)] [] (.bool (iD t.cols t.rows t.nh t.ng t.nk)) [] []:=
 aS q5 2 fun _ _ K hK=>by
  rw [U9];simp only [qP];refine NY hK ?_
  unfold iD;grind
theorem PL(xs:List SV)(σ:List (Option SB)):Sat Tryz.prog 107 xs σ (sH xs σ):=by
 intro K hK
 unfold sH at hK
 split at hK
 ·refine ⟨_,_,_,hK.2, ?_⟩
  rw [i5 hK.1]
  exact SC _
 ·exact hK.elim
noncomputable def s1 :bT Tryz.prog:=(((q5).add 108 (one aL5) (aT fun xs σ v σ' d h=>by
  unfold aL5 at h;split at h<;>cases h;first|exact oT|exact oT _|exact oT _ _|exact oT _ _ _|exact oT _ _ _ _|exact oT _ _ _ _ _|exact oT _ _ _ _ _ _|exact oT _ _ _ _ _ _ _|exact oT _ _ _ _ _ _ _ _|exact oT _ _ _ _ _ _ _ _ _|exact oT _ _ _ _ _ _ _ _ _ _|exact oT _ _ _ _ _ _ _ _ _ _ _)).add 111 (one aIj) (aT fun xs σ v σ' d h=>by
  unfold aIj at h;split at h<;>cases h;first|exact lI|exact lI _|exact lI _ _|exact lI _ _ _|exact lI _ _ _ _|exact lI _ _ _ _ _|exact lI _ _ _ _ _ _|exact lI _ _ _ _ _ _ _|exact lI _ _ _ _ _ _ _ _|exact lI _ _ _ _ _ _ _ _ _|exact lI _ _ _ _ _ _ _ _ _ _|exact lI _ _ _ _ _ _ _ _ _ _ _)).add 107 sH PL
theorem aBW(a b c d:Int)(s:Bool)(K:KC):run s1 2 113 [.agg [.int .i64 a,.int .i64 b,.int .i64 c,.int .i64 d,.bool s]] [] K=
 (Br (jG a b) (K (SV.int .i64 40) [] []) (Br (jG c d) (K (SV.int .i64 40) [] []) (Br (a==c&&b==d) (K (SV.int .i64 43) [] []) (K (SV.int .i64 0) [] [])))):=by kernel_rfl
def QD(a b c d:Int):Int:=bif jG a b||jG c d then 40 else bif a==c&&b==d then 43 else 0
theorem dB(a b c d:Int)(s:Bool):aE Tryz.prog 113 [.agg [.int .i64 a,.int .i64 b,.int .i64 c,.int .i64 d,.bool s]] [] (.int .i64 (QD a b c d)) [] []:=
 aS s1 2 fun _ _ K hK=>by
  rw [aBW];simp only [aJJ];refine aMD hK ?_
  unfold QD;cases jG a b<;>cases jG c d<;>rfl
def MI :List SV->List (Option SB)->Out
 | [.agg [.int .i64 a,.int .i64 b,.int .i64 c,.int .i64 d,.bool _]],[]=>some (.int .i64 (QD a b c d),[],[])
 |_,_=>none
def rhR :List (Nat×eI):=[(0,⟨[1,2,3],[0],[1,2,3,4],1,[]⟩),(2,⟨[1,2,4],[0],[1,2,3,4],1,[]⟩)]
def rhS(t:Trk)(i:Int):St:=⟨[(1,.ptr 0 0),(2,.bool false),(3,.int .i64 i)],[(0,some (.cells 34 (aI t)))],1,[1,2,3,4],87⟩
def rhT(t:Trk)(i:Int):St:=⟨[(1,.ptr 0 0),(2,.bool false),(4,.int .i64 i)],[(0,some (.cells 34 (aI t)))],1,[1,2,3,4],87⟩
noncomputable abbrev rhE :Env:=fG rhR (fun _=>0) s1 1
noncomputable abbrev rhF :Func:=Tryz.f109
theorem aB3(t:Trk)(K:KC):cL rhR (fun _=>0) s1 2 109 [.agg (aI t)] [] K=
 (∃q_,aV rhE (aA rhR 0) rhF [1,0,1,0] 0 0 K q_ {tmps:=[(1,SV.ptr 0 0),(2,SV.bool false),(3,SV.int .i64 0)],store:=[(0,some (SB.cells 34 (aI t)))],nxt:=1,dirty:=[1,2,3,4],nt:=87}):=by kernel_rfl
theorem OR(t:Trk)(i:Nat)(K:Ex->St->Prop):aF rhE (aA rhR 0) rhF [1,0,1,0] 0 K (rhS t i)=
 (Br (decide ((↑i:Int)<(↑t.nh:Int))) (Br (decide (0<=(↑i:Int))&&decide ((↑i:Int)<(↑t.nh:Int))) (Br (!inR (t.h (↑i:Int).toNat) (-2199023255552) 2199023255552) (K Ex.ret {tmps:=[(1,SV.ptr 0 0),(2,SV.bool false),(3,SV.int .i64 (↑i:Int))],store:=[(0,some (SB.cells 34 (aI t)))],nxt:=1,dirty:=[1,2,3,4],nt:=87}) (K Ex.normal {tmps:=[(1,SV.ptr 0 0),(2,SV.bool false),(3,SV.int .i64 (IntKind.i64.wrap ((↑i:Int)+1)))],store:=[(0,some (SB.cells 34 (aI t)))],nxt:=1,dirty:=[1,2,3,4],nt:=87})) (False)) (K (Ex.exit 0) {tmps:=[(1,SV.ptr 0 0),(2,SV.bool false),(3,SV.int .i64 (↑i:Int))],store:=[(0,some (SB.cells 34 (aI t)))],nxt:=1,dirty:=[1,2,3,4],nt:=87})):=by kernel_rfl
theorem aLi(t:Trk)(i:Int)(K:KC):aB rhE (aA rhR 0) rhF [1,0,1,0] 0 K .ret (rhS t i)=
 (K (SV.bool false) [] []):=by kernel_rfl
theorem aBv(t:Trk)(i:Int)(K:KC):aB rhE (aA rhR 0) rhF [1,0,1,0] 0 K (.exit 0) (rhS t i)=
 (∃q_,aV rhE (aA rhR 0) rhF [1,1,0,1,0] 2 0 K q_ {tmps:=[(1,SV.ptr 0 0),(2,SV.bool false),(4,SV.int .i64 0)],store:=[(0,some (SB.cells 34 (aI t)))],nxt:=1,dirty:=[1,2,3,4],nt:=87}):=by kernel_rfl
theorem JM(t:Trk)(i:Nat)(K:Ex->St->Prop):aF rhE (aA rhR 0) rhF [1,1,0,1,0] 2 K (rhT t i)=
 (Br (decide ((↑i:Int)<(↑t.nh:Int))) (Br (IntKind.i64.wrap (t.cols+1) !=0) (Br (decide ((↑i:Int).tmod (IntKind.i64.wrap (t.cols+1))<t.cols)) (Br (decide (0<=IntKind.i64.wrap ((↑i:Int)+1))&&decide (IntKind.i64.wrap ((↑i:Int)+1)<(↑t.nh:Int))) (Br (decide (0<=(↑i:Int))&&decide ((↑i:Int)<(↑t.nh:Int))) (Br (!inR (IntKind.i64.wrap (t.h (IntKind.i64.wrap ((↑i:Int)+1)).toNat - t.h (↑i:Int).toNat)) (IntKind.i64.wrap (0 - t.cell)) t.cell) (K Ex.ret {tmps:=[(1,SV.ptr 0 0),(2,SV.bool false),(4,SV.int .i64 (↑i:Int))],store:=[(0,some (SB.cells 34 (aI t)))],nxt:=1,dirty:=[1,2,3,4],nt:=87}) (Br (IntKind.i64.wrap (t.cols+1) !=0) (Br (decide (IntKind.i64.wrap ((↑i:Int).tdiv (IntKind.i64.wrap (t.cols+1)))<t.rows)) (Br (decide (0<=IntKind.i64.wrap (IntKind.i64.wrap ((↑i:Int)+t.cols)+1))&&decide (IntKind.i64.wrap (IntKind.i64.wrap ((↑i:Int)+t.cols)+1)<(↑t.nh:Int))) (Br (decide (0<=(↑i:Int))&&decide ((↑i:Int)<(↑t.nh:Int))) (Br (!inR (IntKind.i64.wrap (t.h (IntKind.i64.wrap (IntKind.i64.wrap ((↑i:Int)+t.cols)+1)).toNat - t.h (↑i:Int).toNat)) (IntKind.i64.wrap (0 - t.cell)) t.cell) (K Ex.ret {tmps:=[(1,SV.ptr 0 0),(2,SV.bool false),(4,SV.int .i64 (↑i:Int))],store:=[(0,some (SB.cells 34 (aI t)))],nxt:=1,dirty:=[1,2,3,4],nt:=87}) (K Ex.normal {tmps:=[(1,SV.ptr 0 0),(2,SV.bool false),(4,SV.int .i64 (IntKind.i64.wrap ((↑i:Int)+1)))],store:=[(0,some (SB.cells 34 (aI t)))],nxt:=1,dirty:=[1,2,3,4],nt:=87})) (False)) (False)) (K Ex.normal {tmps:=[(1,SV.ptr 0 0),(2,SV.bool false),(4,SV.int .i64 (IntKind.i64.wrap ((↑i:Int)+1)))],store:=[(0,some (SB.cells 34 (aI t)))],nxt:=1,dirty:=[1,2,3,4],nt:=87})) (False))) (False)) (False)) (Br (IntKind.i64.wrap (t.cols+1) !=0) (Br (decide (IntKind.i64.wrap ((↑i:Int).tdiv (IntKind.i64.wrap (t.cols+1)))<t.rows)) (Br (decide (0<=IntKind.i64.wrap (IntKind.i64.wrap ((↑i:Int)+t.cols)+1))&&decide (IntKind.i64.wrap (IntKind.i64.wrap ((↑i:Int)+t.cols)+1)<(↑t.nh:Int))) (Br (decide (0<=(↑i:Int))&&decide ((↑i:Int)<(↑t.nh:Int))) (Br (!inR (IntKind.i64.wrap (t.h (IntKind.i64.wrap (IntKind.i64.wrap ((↑i:Int)+t.cols)+1)).toNat - t.h (↑i:Int).toNat)) (IntKind.i64.wrap (0 - t.cell)) t.cell) (K Ex.ret {tmps:=[(1,SV.ptr 0 0),(2,SV.bool false),(4,SV.int .i64 (↑i:Int))],store:=[(0,some (SB.cells 34 (aI t)))],nxt:=1,dirty:=[1,2,3,4],nt:=87}) (K Ex.normal {tmps:=[(1,SV.ptr 0 0),(2,SV.bool false),(4,SV.int .i64 (IntKind.i64.wrap ((↑i:Int)+1)))],store:=[(0,some (SB.cells 34 (aI t)))],nxt:=1,dirty:=[1,2,3,4],nt:=87})) (False)) (False)) (K Ex.normal {tmps:=[(1,SV.ptr 0 0),(2,SV.bool false),(4,SV.int .i64 (IntKind.i64.wrap ((↑i:Int)+1)))],store:=[(0,some (SB.cells 34 (aI t)))],nxt:=1,dirty:=[1,2,3,4],nt:=87})) (False))) (False)) (K (Ex.exit 2) {tmps:=[(1,SV.ptr 0 0),(2,SV.bool false),(4,SV.int .i64 (↑i:Int))],store:=[(0,some (SB.cells 34 (aI t)))],nxt:=1,dirty:=[1,2,3,4],nt:=87})):=by kernel_rfl
theorem aF8(t:Trk)(i:Int)(K:KC):aB rhE (aA rhR 0) rhF [1,1,0,1,0] 0 K .ret (rhT t i)=
 (K (SV.bool false) [] []):=by kernel_rfl
theorem ZU(t:Trk)(i:Int)(K:KC):aB rhE (aA rhR 0) rhF [1,1,0,1,0] 0 K (.exit 2) (rhT t i)=
 (K (SV.bool true) [] []):=by kernel_rfl
def sF(t:Trk):Bool:= !(dO (fun i=>eY 2199023255552 (t.h i)) t.nh||dO (kH t.h t.cell (t.cols+1).toNat t.nh) t.nh)
theorem aIQ(t:Trk)(hc:iD t.cols t.rows t.nh t.ng t.nk=true)(K:KC)(hK:K (.bool (sF t)) [] []):cL rhR (fun _=>0) s1 2 109 [.agg (aI t)] [] K:=by
 obtain ⟨⟨⟨a1,a2⟩,⟨a3,a4⟩,_⟩,_,_,hn,hn2,_⟩:=nQ hc
 rw [aB3]
 unfold sF at hK
 refine iR (fun i:Nat=>rhS t i) t.nh (fun i=>eY 2199023255552 (t.h i)) (fun i=>aB rhE (aA rhR 0) rhF [1,0,1,0] 0 K .ret (rhS t i)) (aB rhE (aA rhR 0) rhF [1,0,1,0] 0 K (.exit 0) (rhS t t.nh)) (fun i hi X h1 h2=> ?_) (fun X h=> ?_) (fun i hi h _=> ?_) (fun h=> ?_)
 ·rw [OR,aK hi (by omega)]
  simp only [am]
  refine Br.of (fun _=>Br.of (fun _=>Br.of (fun c=>h1 ?_) fun c=>h2 ?_) fun c=>eA hi c) fun c=>iI hi c
  ·rw [<- zZ];exact c
  ·rw [<- zZ];exact c
 ·rw [OR]
  exact Br.of (fun c=>g7 c) fun _=>h
 ·show aB _ _ _ _ _ _ _ _
  rw [aLi]
  rw [show dO (fun i=>eY 2199023255552 (t.h i)) t.nh=true from iS.2 ⟨i,hi,h⟩] at hK
  exact hK
 ·rw [aBv]
  rw [show dO (fun i=>eY 2199023255552 (t.h i)) t.nh=false from e9.2 h,gx] at hK
  refine iR (fun i:Nat=>rhT t i) t.nh (kH t.h t.cell (t.cols+1).toNat t.nh) (fun i=>aB rhE (aA rhR 0) rhF [1,1,0,1,0] 0 K .ret (rhT t i)) (aB rhE (aA rhR 0) rhF [1,1,0,1,0] 0 K (.exit 2) (rhT t t.nh)) (fun i hi X h1 h2=> ?_) (fun X h=> ?_) (fun i hi h _=> ?_) (fun h=> ?_)
  ·have hw:t.cols+1=(((t.cols+1).toNat:Nat):Int):=(Int.toNat_of_nonneg (by omega)).symm
   have hR:t.rows=(((t.rows+1).toNat - 1:Nat):Int):=by omega
   have hcl:t.cols=(((t.cols+1).toNat - 1:Nat):Int):=by omega
   generalize hwd:(t.cols+1).toNat=w at*
   generalize hRd:(t.rows+1).toNat=R at*
   have hw1:1<=w:=by omega
   have hend:(i+1)%w≠0->i+1<t.nh:=fun h1=>by
    rcases ia (Nat.succ_le_of_lt hi) with h2|h2
    ·exact h2
    ·rw [show i+1=t.nh from h2,hn,Nat.mul_mod_right] at h1
     exact absurd rfl h1
   have hdv:i/w<=i:=Nat.div_le_self i w
   have e1:decide (((i%w:Nat):Int)<t.cols)=decide ((i+1)%w≠0):=by
    rw [<- aDN hw1,hcl,dw];omega
   have e2:decide (((i/w:Nat):Int)<t.rows)=decide (i+w<t.nh):=by
    rw [hn,<- aDL hw1,hR,dw];omega
   have e3:IntKind.i64.wrap (IntKind.i64.wrap ((i:Int)+t.cols)+1)=((i+w:Nat):Int):=by
    rw [hcl,show (i:Int)+((w - 1:Nat):Int)=((i+(w - 1):Nat):Int) by omega,rW (by omega),show ((i+(w - 1):Nat):Int)+1=((i+w:Nat):Int) by omega,rW (by omega)]
   rw [JM,aK hi (by omega),hw,rW (n:=w) (by omega),PX,aEm,rW (n:=i/w) (by omega),e1,e2,e3,ME]
   simp only [am,zZ]
   unfold kH at h1 h2
   refine Br.of (fun _=>Br.of (fun _=>Br.of (fun c1=>Br.of (fun _=>Br.of (fun _=>Br.of (fun c2=> ?_) fun c2=>Br.of (fun _=>Br.of (fun c3=>Br.of (fun _=>Br.of (fun _=>Br.of (fun c4=> ?_) fun c4=> ?_) fun c=>eA hi c) fun c=> ?_) fun c3=> ?_) fun c=> ?_) fun c=>eA hi c) fun c=> ?_)
    fun c1=>Br.of (fun _=>Br.of (fun c3=>Br.of (fun _=>Br.of (fun _=>Br.of (fun c4=> ?_) fun c4=> ?_) fun c=>eA hi c) fun c=> ?_) fun c3=> ?_) fun c=> ?_) fun c=> ?_) fun c=>iI hi c
   ·exact h1 (by rw [c1,c2];rfl)
   ·exact h1 (by rw [c3,c4,ch,co])
   ·exact h2 (by rw [c2,c4,em,em];rfl)
   ·exact eA (aa c3) c
   ·exact h2 (by rw [c2,c3,em];rfl)
   ·have:=ae c;omega
   ·exact eA (hend (aa c1)) c
   ·exact h1 (by rw [c3,c4,ch,co])
   ·exact h2 (by rw [c1,c4,em];rfl)
   ·exact eA (aa c3) c
   ·exact h2 (by rw [c1,c3];rfl)
   ·have:=ae c;omega
   ·have:=ae c;omega
  ·rw [JM]
   exact Br.of (fun c=>g7 c) fun _=>h
  ·show aB _ _ _ _ _ _ _ _
   rw [aF8]
   rw [show dO (kH t.h t.cell (t.cols+1).toNat t.nh) t.nh=true from iS.2 ⟨i,hi,h⟩] at hK
   exact hK
  ·rw [ZU]
   rw [show dO (kH t.h t.cell (t.cols+1).toNat t.nh) t.nh=false from e9.2 h] at hK
   exact hK
def GC :List SV->List (Option SB)->KC->Prop
 | [.agg [.int .i64 a0,.int .i64 a1,.int .i64 a2,.int .i64 a3,.int .i64 a4,.int .i64 a5,.ro nh 1 h,.ro ng 1 g,.ro nk 3 kg,.ro nl 2 l,.ro nr 1 rl,.ro nt 5 gt,.int .i64 sx,.int .i64 sy,.int .u32 hd,.int .i64 lp]],[],K=>iX h g kg l rl gt/\iD a2 a3 nh ng nk=true/\K (.bool (sF (mZ a0 a1 a2 a3 a4 a5 nh h ng g nk kg nl l nr rl nt gt sx sy hd lp))) [] []
 |_,_,_=>False
theorem P8(xs:List SV)(σ:List (Option SB)):Sat Tryz.prog 109 xs σ (GC xs σ):=by
 intro K hK
 unfold GC at hK
 split at hK
 ·rw [i5 hK.1]
  exact bS (env:=tab.env s1 (fun _=>0) (fun _=>false)) ⟨tab.htt,s1.ok⟩ tab.mixed (fun n=>aY n rhR) tab.hft 2 _ _ _ K (aIQ _ (by exact hK.2.1) K hK.2.2)
 ·exact hK.elim
noncomputable def s2 :bT Tryz.prog:=((s1).add 113 (one MI) (aT fun xs σ v σ' d h=>by
  unfold MI at h;split at h<;>cases h;first|exact dB|exact dB _|exact dB _ _|exact dB _ _ _|exact dB _ _ _ _|exact dB _ _ _ _ _|exact dB _ _ _ _ _ _|exact dB _ _ _ _ _ _ _|exact dB _ _ _ _ _ _ _ _|exact dB _ _ _ _ _ _ _ _ _|exact dB _ _ _ _ _ _ _ _ _ _|exact dB _ _ _ _ _ _ _ _ _ _ _)).add 109 GC P8
def rfR :List (Nat×eI):=[(0,⟨[1,2,3],[0],[1,2,3,4],1,[]⟩),(2,⟨[1,2,4],[0],[1,2,3,4],1,[]⟩)]
def rfS(t:Trk)(r:Int)(i:Int):St:=⟨[(1,.ptr 0 0),(2,.int .i64 r),(3,.int .i64 i)],[(0,some (.cells 34 (aI t)))],1,[1,2,3,4],80⟩
def rfT(t:Trk)(r:Int)(i:Int):St:=⟨[(1,.ptr 0 0),(2,.int .i64 r),(4,.int .i64 i)],[(0,some (.cells 34 (aI t)))],1,[1,2,3,4],80⟩
noncomputable abbrev rfE :Env:=fG rfR (fun _=>0) s2 1
noncomputable abbrev rfF :Func:=Tryz.f64
theorem aFd(t:Trk)(K:KC):cL rfR (fun _=>0) s2 2 64 [.agg (aI t)] [] K=
 ((iX (aP t.h) (aP t.g) (fH t) (bA t.lx t.ly) (bN t) (fB t))/\(Br (!iD t.cols t.rows t.nh t.ng t.nk) (K (SV.int .i64 42) [] []) (Br (!inR t.cell 17179869184 274877906944) (K (SV.int .i64 40) [] []) (Br (!inR t.cx (-140737488355328) 140737488355328) (K (SV.int .i64 40) [] []) (Br (!inR t.cy (-140737488355328) 140737488355328) (K (SV.int .i64 40) [] []) ((iX (aP t.h) (aP t.g) (fH t) (bA t.lx t.ly) (bN t) (fB t))/\((iD t.cols t.rows t.nh t.ng t.nk=true)/\(Br (!sF t) (K (SV.int .i64 40) [] []) (∃q_,aV rfE (aA rfR 0) rfF [1,1,1,0,1,0] 0 0 K q_ {tmps:=[(1,SV.ptr 0 0),(2,SV.int .i64 0),(3,SV.int .i64 0)],store:=[(0,some (SB.cells 34 (aI t)))],nxt:=1,dirty:=[1,2,3,4],nt:=80}))))))))):=by kernel_rfl
theorem QL(t:Trk)(i:Nat)(K:Ex->St->Prop):aF rfE (aA rfR 0) rfF [1,1,1,0,1,0] 0 K (rfS t 0 i)=
 (Br (decide ((↑i:Int)<(↑t.ng:Int))) (Br (decide (0<=(↑i:Int))&&decide ((↑i:Int)<(↑t.ng:Int))) (Br (decide (t.g (↑i:Int).toNat<0)) (K Ex.ret {tmps:=[(1,SV.ptr 0 0),(2,SV.int .i64 40),(3,SV.int .i64 (↑i:Int))],store:=[(0,some (SB.cells 34 (aI t)))],nxt:=1,dirty:=[1,2,3,4],nt:=80}) (Br (decide (0<=(↑i:Int))&&decide ((↑i:Int)<(↑t.ng:Int))) (Br (decide (t.g (↑i:Int).toNat>=(↑t.nk:Int))) (K Ex.ret {tmps:=[(1,SV.ptr 0 0),(2,SV.int .i64 40),(3,SV.int .i64 (↑i:Int))],store:=[(0,some (SB.cells 34 (aI t)))],nxt:=1,dirty:=[1,2,3,4],nt:=80}) (K Ex.normal {tmps:=[(1,SV.ptr 0 0),(2,SV.int .i64 0),(3,SV.int .i64 (IntKind.i64.wrap ((↑i:Int)+1)))],store:=[(0,some (SB.cells 34 (aI t)))],nxt:=1,dirty:=[1,2,3,4],nt:=80})) (False))) (False)) (K (Ex.exit 0) {tmps:=[(1,SV.ptr 0 0),(2,SV.int .i64 0),(3,SV.int .i64 (↑i:Int))],store:=[(0,some (SB.cells 34 (aI t)))],nxt:=1,dirty:=[1,2,3,4],nt:=80})):=by kernel_rfl
theorem aKA(t:Trk)(r i:Int)(K:KC):aB rfE (aA rfR 0) rfF [1,1,1,0,1,0] 0 K .ret (rfS t r i)=
 (K (SV.int .i64 r) [] []):=by kernel_rfl
theorem aEG(t:Trk)(i:Int)(K:KC):aB rfE (aA rfR 0) rfF [1,1,1,0,1,0] 0 K (.exit 0) (rfS t 0 i)=
 (∃q_,aV rfE (aA rfR 0) rfF [1,1,1,1,0,1,0] 2 0 K q_ {tmps:=[(1,SV.ptr 0 0),(2,SV.int .i64 0),(4,SV.int .i64 0)],store:=[(0,some (SB.cells 34 (aI t)))],nxt:=1,dirty:=[1,2,3,4],nt:=80}):=by kernel_rfl
theorem JK(t:Trk)(i:Nat)(K:Ex->St->Prop):aF rfE (aA rfR 0) rfF [1,1,1,1,0,1,0] 2 K (rfT t 0 i)=
 (Br (decide ((↑i:Int)<(↑t.nk:Int))) (Br (decide (0<=(↑i:Int))&&decide ((↑i:Int)<(↑t.nk:Int))) (Br (!inR (t.kg (↑i:Int).toNat) 0 8589934592) (K Ex.ret {tmps:=[(1,SV.ptr 0 0),(2,SV.int .i64 40),(4,SV.int .i64 (↑i:Int))],store:=[(0,some (SB.cells 34 (aI t)))],nxt:=1,dirty:=[1,2,3,4],nt:=80}) (Br (decide (0<=(↑i:Int))&&decide ((↑i:Int)<(↑t.nk:Int))) (Br (!inR (t.kd (↑i:Int).toNat) 0 4294967296) (K Ex.ret {tmps:=[(1,SV.ptr 0 0),(2,SV.int .i64 40),(4,SV.int .i64 (↑i:Int))],store:=[(0,some (SB.cells 34 (aI t)))],nxt:=1,dirty:=[1,2,3,4],nt:=80}) (K Ex.normal {tmps:=[(1,SV.ptr 0 0),(2,SV.int .i64 0),(4,SV.int .i64 (IntKind.i64.wrap ((↑i:Int)+1)))],store:=[(0,some (SB.cells 34 (aI t)))],nxt:=1,dirty:=[1,2,3,4],nt:=80})) (False))) (False)) (K (Ex.exit 2) {tmps:=[(1,SV.ptr 0 0),(2,SV.int .i64 0),(4,SV.int .i64 (↑i:Int))],store:=[(0,some (SB.cells 34 (aI t)))],nxt:=1,dirty:=[1,2,3,4],nt:=80})):=by kernel_rfl
theorem aHP(t:Trk)(r i:Int)(K:KC):aB rfE (aA rfR 0) rfF [1,1,1,1,0,1,0] 0 K .ret (rfT t r i)=
 (K (SV.int .i64 r) [] []):=by kernel_rfl
theorem aA5(t:Trk)(i:Int)(K:KC):aB rfE (aA rfR 0) rfF [1,1,1,1,0,1,0] 0 K (.exit 2) (rfT t 0 i)=
 (K (SV.int .i64 0) [] []):=by kernel_rfl
theorem V9(m x:Int)(l:Int)(h:IntKind.i64.wrap (0 - m)=l):(!inR x l m)=eY m x:=by rw [<- h];exact zZ x m
theorem aJq(t:Trk)(K:KC)(hK:K (.int .i64 (iQ t)) [] []):cL rfR (fun _=>0) s2 2 64 [.agg (aI t)] [] K:=by
 rw [aFd]
 unfold iQ at hK
 refine ⟨fZ t,Br.of (fun c=> ?_) fun c=> ?_⟩
 ·rw [dg] at c
  rw [c] at hK;exact hK
 rw [dr] at c
 rw [c] at hK
 obtain ⟨⟨_,_,_,hk⟩,_,_,_,_,hg⟩:=nQ c
 simp only [ar] at hK
 have bad:kD t=true->K (.int .i64 40) [] []:=fun h=>by rw [h] at hK;exact hK
 have good:kD t=false->K (.int .i64 0) [] []:=fun h=>by rw [h] at hK;exact hK
 have hb:kD t=((!inR t.cell 17179869184 274877906944)||((!inR t.cx (-140737488355328) 140737488355328)||((!inR t.cy (-140737488355328) 140737488355328)||((!sF t)||(dO (fun i=>pN t.nk (t.g i)) t.ng||dO (fun i=>xE (t.kg i) (t.kd i)) t.nk))))):=by
  rw [V9 140737488355328 t.cx (-140737488355328) rfl,V9 140737488355328 t.cy (-140737488355328) rfl]
  unfold kD sF inR
  grind
 rw [hb] at bad good
 refine Br.of (fun c1=>bad (by rw [c1];rfl)) fun c1=>Br.of (fun c2=>bad (by rw [c1,c2];rfl)) fun c2=>Br.of (fun c3=>bad (by rw [c1,c2,c3];rfl)) fun c3=>⟨fZ t,c,Br.of (fun c4=>bad (by rw [c1,c2,c3,c4];rfl)) fun c4=> ?_⟩
 rw [c1,c2,c3,c4] at bad good
 simp only [gx] at bad good
 refine iR (fun i:Nat=>rfS t 0 i) t.ng (fun i=>pN t.nk (t.g i)) (fun i=>aB rfE (aA rfR 0) rfF [1,1,1,0,1,0] 0 K .ret (rfS t 40 i)) (aB rfE (aA rfR 0) rfF [1,1,1,0,1,0] 0 K (.exit 0) (rfS t 0 t.ng)) (fun i hi X h1 h2=> ?_) (fun X h=> ?_) (fun i hi h _=> ?_) (fun h=> ?_)
 ·rw [QL,aK hi (by omega)]
  simp only [am]
  unfold pN at h1 h2
  exact Br.of (fun _=>Br.of (fun _=>Br.of (fun c=>h1 (by rw [c];rfl)) fun c=>Br.of (fun _=>Br.of (fun d=>h1 (by rw [c,d];rfl)) fun d=>h2 (by rw [c,d];rfl)) fun c=>eA hi c) fun c=>eA hi c) fun c=>iI hi c
 ·rw [QL]
  exact Br.of (fun c=>g7 c) fun _=>h
 ·show aB _ _ _ _ _ _ _ _
  rw [aKA]
  exact bad (by rw [show dO (fun i=>pN t.nk (t.g i)) t.ng=true from iS.2 ⟨i,hi,h⟩];rfl)
 ·rw [aEG]
  rw [show dO (fun i=>pN t.nk (t.g i)) t.ng=false from e9.2 h] at bad good
  refine iR (fun i:Nat=>rfT t 0 i) t.nk (fun i=>xE (t.kg i) (t.kd i)) (fun i=>aB rfE (aA rfR 0) rfF [1,1,1,1,0,1,0] 0 K .ret (rfT t 40 i)) (aB rfE (aA rfR 0) rfF [1,1,1,1,0,1,0] 0 K (.exit 2) (rfT t 0 t.nk)) (fun i hi X h1 h2=> ?_) (fun X h=> ?_) (fun i hi h _=> ?_) (fun h=> ?_)
  ·rw [JK,aK hi (by omega)]
   simp only [am]
   have ho:xE (t.kg i) (t.kd i)=((!inR (t.kg i) 0 8589934592)||(!inR (t.kd i) 0 4294967296)):=by unfold xE inR;grind
   rw [ho] at h1 h2
   exact Br.of (fun _=>Br.of (fun _=>Br.of (fun c=>h1 (by rw [c];rfl)) fun c=>Br.of (fun _=>Br.of (fun d=>h1 (by rw [c,d];rfl)) fun d=>h2 (by rw [c,d];rfl)) fun c=>eA hi c) fun c=>eA hi c) fun c=>iI hi c
  ·rw [JK]
   exact Br.of (fun c=>g7 c) fun _=>h
  ·show aB _ _ _ _ _ _ _ _
   rw [aHP]
   exact bad (by rw [show dO (fun i=>xE (t.kg i) (t.kd i)) t.nk=true from iS.2 ⟨i,hi,h⟩];rfl)
  ·rw [aA5]
   exact good (by rw [show dO (fun i=>xE (t.kg i) (t.kd i)) t.nk=false from e9.2 h];rfl)
def LR :List SV->List (Option SB)->KC->Prop
 | [.agg [.int .i64 a0,.int .i64 a1,.int .i64 a2,.int .i64 a3,.int .i64 a4,.int .i64 a5,.ro nh 1 h,.ro ng 1 g,.ro nk 3 kg,.ro nl 2 l,.ro nr 1 rl,.ro nt 5 gt,.int .i64 sx,.int .i64 sy,.int .u32 hd,.int .i64 lp]],[],K=>iX h g kg l rl gt/\K (.int .i64 (iQ (mZ a0 a1 a2 a3 a4 a5 nh h ng g nk kg nl l nr rl nt gt sx sy hd lp))) [] []
 |_,_,_=>False
theorem S8(xs:List SV)(σ:List (Option SB)):Sat Tryz.prog 64 xs σ (LR xs σ):=by
 intro K hK
 unfold LR at hK
 split at hK
 ·rw [i5 hK.1]
  exact bS (env:=tab.env s2 (fun _=>0) (fun _=>false)) ⟨tab.htt,s2.ok⟩ tab.mixed (fun n=>aY n rfR) tab.hft 2 _ _ _ K (aJq _ K hK.2)
 ·exact hK.elim
def rnR :List (Nat×eI):=[(0,⟨[3,0,2],[],[],0,[]⟩)]
def rnS(X Y:Nat->Int)(n:Nat)(i:Int):St:=⟨[(3,.int .i64 i),(0,.ro n 2 (aN X Y)),(2,.bool false)],[],0,[],40⟩
noncomputable abbrev rnE :Env:=fG rnR (fun _=>0) s2 1
noncomputable abbrev rnF :Func:=Tryz.f110
theorem aDh(X Y:Nat->Int)(n:Nat)(K:KC):cL rnR (fun _=>0) s2 2 110 [.ro n 2 (aN X Y)] [] K=
 (∃q_,aV rnE (aA rnR 0) rnF [1,0,1,0] 0 0 K q_ {tmps:=[(3,SV.int .i64 0),(0,SV.ro n 2 (aN X Y)),(2,SV.bool false)],store:=[],nxt:=0,dirty:=[],nt:=40}):=by kernel_rfl
theorem OG(X Y:Nat->Int)(n i:Nat)(K:Ex->St->Prop):aF rnE (aA rnR 0) rnF [1,0,1,0] 0 K (rnS X Y n i)=
 (Br (decide ((↑i:Int)<(↑n:Int))) (Br (decide (0<=(↑i:Int))&&decide ((↑i:Int)<(↑n:Int))) (Br (decide (X (↑i:Int).toNat>281474976710656)) (K Ex.ret {tmps:=[(3,SV.int .i64 (↑i:Int)),(0,SV.ro n 2 (aN X Y)),(2,SV.bool false)],store:=[],nxt:=0,dirty:=[],nt:=40}) (Br (decide (0<=(↑i:Int))&&decide ((↑i:Int)<(↑n:Int))) (Br (decide (X (↑i:Int).toNat< -281474976710656)) (K Ex.ret {tmps:=[(3,SV.int .i64 (↑i:Int)),(0,SV.ro n 2 (aN X Y)),(2,SV.bool false)],store:=[],nxt:=0,dirty:=[],nt:=40}) (Br (decide (0<=(↑i:Int))&&decide ((↑i:Int)<(↑n:Int))) (Br (decide (Y (↑i:Int).toNat>281474976710656)) (K Ex.ret {tmps:=[(3,SV.int .i64 (↑i:Int)),(0,SV.ro n 2 (aN X Y)),(2,SV.bool false)],store:=[],nxt:=0,dirty:=[],nt:=40}) (Br (decide (0<=(↑i:Int))&&decide ((↑i:Int)<(↑n:Int))) (Br (decide (Y (↑i:Int).toNat< -281474976710656)) (K Ex.ret {tmps:=[(3,SV.int .i64 (↑i:Int)),(0,SV.ro n 2 (aN X Y)),(2,SV.bool false)],store:=[],nxt:=0,dirty:=[],nt:=40}) (K Ex.normal {tmps:=[(3,SV.int .i64 (IntKind.i64.wrap ((↑i:Int)+1))),(0,SV.ro n 2 (aN X Y)),(2,SV.bool false)],store:=[],nxt:=0,dirty:=[],nt:=40})) (False))) (False))) (False))) (False)) (K (Ex.exit 0) {tmps:=[(3,SV.int .i64 (↑i:Int)),(0,SV.ro n 2 (aN X Y)),(2,SV.bool false)],store:=[],nxt:=0,dirty:=[],nt:=40})):=by kernel_rfl
theorem aJr(X Y:Nat->Int)(n:Nat)(i:Int)(K:KC):aB rnE (aA rnR 0) rnF [1,0,1,0] 0 K .ret (rnS X Y n i)=
 (K (SV.bool false) [] []):=by kernel_rfl
theorem aFj(X Y:Nat->Int)(n:Nat)(i:Int)(K:KC):aB rnE (aA rnR 0) rnF [1,0,1,0] 0 K (.exit 0) (rnS X Y n i)=
 (K (SV.bool true) [] []):=by kernel_rfl
theorem aLu(t:TypeId)(ax ay bx ey x y:Int)(K:KC):kC 5 s2 2 110 [.arr 0 0 3 3] [some (.cells t [.int .i64 ax,.int .i64 ay,.int .i64 bx,.int .i64 ey,.int .i64 x,.int .i64 y])] K=
 (Br (decide (ax>281474976710656)) (K (SV.bool false) [some (SB.cells t [SV.int .i64 ax,SV.int .i64 ay,SV.int .i64 bx,SV.int .i64 ey,SV.int .i64 x,SV.int .i64 y])] []) (Br (decide (ax< -281474976710656)) (K (SV.bool false) [some (SB.cells t [SV.int .i64 ax,SV.int .i64 ay,SV.int .i64 bx,SV.int .i64 ey,SV.int .i64 x,SV.int .i64 y])] []) (Br (decide (ay>281474976710656)) (K (SV.bool false) [some (SB.cells t [SV.int .i64 ax,SV.int .i64 ay,SV.int .i64 bx,SV.int .i64 ey,SV.int .i64 x,SV.int .i64 y])] []) (Br (decide (ay< -281474976710656)) (K (SV.bool false) [some (SB.cells t [SV.int .i64 ax,SV.int .i64 ay,SV.int .i64 bx,SV.int .i64 ey,SV.int .i64 x,SV.int .i64 y])] []) (Br (decide (bx>281474976710656)) (K (SV.bool false) [some (SB.cells t [SV.int .i64 ax,SV.int .i64 ay,SV.int .i64 bx,SV.int .i64 ey,SV.int .i64 x,SV.int .i64 y])] []) (Br (decide (bx< -281474976710656)) (K (SV.bool false) [some (SB.cells t [SV.int .i64 ax,SV.int .i64 ay,SV.int .i64 bx,SV.int .i64 ey,SV.int .i64 x,SV.int .i64 y])] []) (Br (decide (ey>281474976710656)) (K (SV.bool false) [some (SB.cells t [SV.int .i64 ax,SV.int .i64 ay,SV.int .i64 bx,SV.int .i64 ey,SV.int .i64 x,SV.int .i64 y])] []) (Br (decide (ey< -281474976710656)) (K (SV.bool false) [some (SB.cells t [SV.int .i64 ax,SV.int .i64 ay,SV.int .i64 bx,SV.int .i64 ey,SV.int .i64 x,SV.int .i64 y])] []) (Br (decide (x>281474976710656)) (K (SV.bool false) [some (SB.cells t [SV.int .i64 ax,SV.int .i64 ay,SV.int .i64 bx,SV.int .i64 ey,SV.int .i64 x,SV.int .i64 y])] []) (Br (decide (x< -281474976710656)) (K (SV.bool false) [some (SB.cells t [SV.int .i64 ax,SV.int .i64 ay,SV.int .i64 bx,SV.int .i64 ey,SV.int .i64 x,SV.int .i64 y])] []) (Br (decide (y>281474976710656)) (K (SV.bool false) [some (SB.cells t [SV.int .i64 ax,SV.int .i64 ay,SV.int .i64 bx,SV.int .i64 ey,SV.int .i64 x,SV.int .i64 y])] []) (Br (decide (y< -281474976710656)) (K (SV.bool false) [some (SB.cells t [SV.int .i64 ax,SV.int .i64 ay,SV.int .i64 bx,SV.int .i64 ey,SV.int .i64 x,SV.int .i64 y])] []) (K (SV.bool true) [some (SB.cells t [SV.int .i64 ax,SV.int .i64 ay,SV.int .i64 bx,SV.int .i64 ey,SV.int .i64 x,SV.int .i64 y])] []))))))))))))):=by kernel_rfl
def roR :List (Nat×eI):=[(0,⟨[3,0,2],[],[],0,[]⟩)]
def roS(X Y:Nat->Int)(n:Nat)(r:Bool)(i:Int):St:=⟨[(3,.int .i64 i),(0,.ro n 2 (aN X Y)),(2,.bool r)],[],0,[],15⟩
noncomputable abbrev roE :Env:=fG roR (fun _=>0) s2 1
noncomputable abbrev roF :Func:=Tryz.f66
theorem aCM(X Y:Nat->Int)(n:Nat)(K:KC):cL roR (fun _=>0) s2 2 66 [.ro n 2 (aN X Y)] [] K=
 (∃q_,aV roE (aA roR 0) roF [1,0,1,0] 0 0 K q_ {tmps:=[(3,SV.int .i64 0),(0,SV.ro n 2 (aN X Y)),(2,SV.bool false)],store:=[],nxt:=0,dirty:=[],nt:=15}):=by kernel_rfl
theorem MZ(X Y:Nat->Int)(n i:Nat)(K:Ex->St->Prop):aF roE (aA roR 0) roF [1,0,1,0] 0 K (roS X Y n false i)=
 (Br (decide ((↑i:Int)<(↑n:Int))) (Br (decide (0<=(↑i:Int))&&decide ((↑i:Int)<(↑n:Int))) (Br (jG (X (↑i:Int).toNat) (Y (↑i:Int).toNat)) (K Ex.ret {tmps:=[(3,SV.int .i64 (↑i:Int)),(0,SV.ro n 2 (aN X Y)),(2,SV.bool true)],store:=[],nxt:=0,dirty:=[],nt:=15}) (K Ex.normal {tmps:=[(3,SV.int .i64 (IntKind.i64.wrap ((↑i:Int)+1))),(0,SV.ro n 2 (aN X Y)),(2,SV.bool false)],store:=[],nxt:=0,dirty:=[],nt:=15})) (False)) (K (Ex.exit 0) {tmps:=[(3,SV.int .i64 (↑i:Int)),(0,SV.ro n 2 (aN X Y)),(2,SV.bool false)],store:=[],nxt:=0,dirty:=[],nt:=15})):=by kernel_rfl
theorem aKB(X Y:Nat->Int)(n:Nat)(r:Bool)(i:Int)(K:KC):aB roE (aA roR 0) roF [1,0,1,0] 0 K .ret (roS X Y n r i)=
 (K (SV.bool r) [] []):=by kernel_rfl
theorem aDH(X Y:Nat->Int)(n:Nat)(r:Bool)(i:Int)(K:KC):aB roE (aA roR 0) roF [1,0,1,0] 0 K (.exit 0) (roS X Y n r i)=
 (K (SV.bool false) [] []):=by kernel_rfl
theorem C4(x y:Int):nF x y=(decide (x>281474976710656)||(decide (x< -281474976710656)||(decide (y>281474976710656)||decide (y< -281474976710656)))):=by unfold nF;grind
theorem aLX(X Y:Nat->Int)(n:Nat):aE Tryz.prog 110 [.ro n 2 (aN X Y)] [] (.bool (!dO (fun i=>nF (X i) (Y i)) n)) [] []:=
 eF rnR (fun _=>0) s2 2 (fun _ h=>nomatch h) fun ⟨⟨hl,_⟩,_⟩ _ K hK=>by
  have hK:=hK [] fun _ h=>nomatch h
  rw [aDh]
  refine iR (fun i:Nat=>rnS X Y n i) n (fun i=>nF (X i) (Y i)) (fun i=>aB rnE (aA rnR 0) rnF [1,0,1,0] 0 K .ret (rnS X Y n i)) (aB rnE (aA rnR 0) rnF [1,0,1,0] 0 K (.exit 0) (rnS X Y n n)) (fun i hi Z h1 h2=> ?_) (fun Z h=> ?_) (fun i hi h _=> ?_) (fun h=> ?_)
  ·rw [OG,aK hi (by omega)]
   simp only [am]
   rw [C4] at h1 h2
   exact Br.of (fun _=>Br.of (fun _=>Br.of (fun c=>h1 (by rw [c];rfl)) fun c=>Br.of (fun _=>Br.of (fun d=>h1 (by rw [c,d];rfl)) fun d=>Br.of (fun _=>Br.of (fun e=>h1 (by rw [c,d,e];rfl)) fun e=>Br.of (fun _=>Br.of (fun f=>h1 (by rw [c,d,e,f];rfl)) fun f=>h2 (by rw [c,d,e,f];rfl))
    fun c=>eA hi c) fun c=>eA hi c) fun c=>eA hi c) fun c=>eA hi c) fun c=>iI hi c
  ·rw [OG]
   exact Br.of (fun c=>g7 c) fun _=>h
  ·show aB _ _ _ _ _ _ _ _
   rw [aJr]
   rw [show dO (fun i=>nF (X i) (Y i)) n=true from iS.2 ⟨i,hi,h⟩] at hK
   exact hK
  ·rw [aFj]
   rw [show dO (fun i=>nF (X i) (Y i)) n=false from e9.2 h] at hK
   exact hK
theorem aJE(t:TypeId)(ax ay bx ey x y:Int):aE Tryz.prog 110 [.arr 0 0 3 3] [some (.cells t [.int .i64 ax,.int .i64 ay,.int .i64 bx,.int .i64 ey,.int .i64 x,.int .i64 y])] (.bool (!uL ax ay bx ey x y))
  [some (.cells t [.int .i64 ax,.int .i64 ay,.int .i64 bx,.int .i64 ey,.int .i64 x,.int .i64 y])] []:=
 dT 5 s2 2 fun _ _ K hK=>by
  rw [aLu]
  simp only [qP]
  refine NY hK ?_
  unfold uL
  have key: ∀c b:Bool,(bif c then false else b)=(!c&&b):=by decide
  rw [C4,C4,C4]
  simp only [key,Bool.not_or,Bool.and_assoc,Bool.and_true]
def R6 :List SV->List (Option SB)->KC->Prop
 | [.ro n 2 g],[],K=>pts g/\K (.bool (!dO (fun i=>nF (px (g i)) (py (g i))) n)) [] []
 | [.arr 0 0 3 3],[some (.cells t [.int .i64 ax,.int .i64 ay,.int .i64 bx,.int .i64 ey,.int .i64 x,.int .i64 y])],K=>
  K (.bool (!uL ax ay bx ey x y)) [some (.cells t [.int .i64 ax,.int .i64 ay,.int .i64 bx,.int .i64 ey,.int .i64 x,.int .i64 y])] []
 |_,_,_=>False
theorem Z6(xs:List SV)(σ:List (Option SB)):Sat Tryz.prog 110 xs σ (R6 xs σ):=by
 intro K hK
 unfold R6 at hK
 split at hK
 ·obtain ⟨hp,hK⟩:=hK
  refine ⟨_,_,_,hK, ?_⟩
  rw [rO hp];exact aLX _ _ _
 ·exact ⟨_,_,_,hK,aJE _ _ _ _ _ _ _⟩
 ·exact hK.elim
theorem aMa(X Y:Nat->Int)(n:Nat):aE Tryz.prog 66 [.ro n 2 (aN X Y)] [] (.bool (dO (fun i=>jG (X i) (Y i)) n)) [] []:=
 eF roR (fun _=>0) s2 2 (fun _ h=>nomatch h) fun ⟨⟨hl,_⟩,_⟩ _ K hK=>by
  have hK:=hK [] fun _ h=>nomatch h
  rw [aCM]
  refine iR (fun i:Nat=>roS X Y n false i) n (fun i=>jG (X i) (Y i)) (fun i=>aB roE (aA roR 0) roF [1,0,1,0] 0 K .ret (roS X Y n true i)) (aB roE (aA roR 0) roF [1,0,1,0] 0 K (.exit 0) (roS X Y n false n)) (fun i hi Z h1 h2=> ?_) (fun Z h=> ?_) (fun i hi h _=> ?_) (fun h=> ?_)
  ·rw [MZ,aK hi (by omega)]
   simp only [am]
   exact Br.of (fun _=>Br.of (fun _=>Br.of (fun c=>h1 c) fun c=>h2 c) fun c=>eA hi c) fun c=>iI hi c
  ·rw [MZ]
   exact Br.of (fun c=>g7 c) fun _=>h
  ·show aB _ _ _ _ _ _ _ _
   rw [aKB]
   rw [show dO (fun i=>jG (X i) (Y i)) n=true from iS.2 ⟨i,hi,h⟩] at hK
   exact hK
  ·rw [aDH]
   rw [show dO (fun i=>jG (X i) (Y i)) n=false from e9.2 h] at hK
   exact hK
def RY :List SV->List (Option SB)->KC->Prop
 | [.ro n 2 g],[],K=>pts g/\K (.bool (dO (fun i=>jG (px (g i)) (py (g i))) n)) [] []
 |_,_,_=>False
theorem ZO(xs:List SV)(σ:List (Option SB)):Sat Tryz.prog 66 xs σ (RY xs σ):=by
 intro K hK
 unfold RY at hK
 split at hK
 ·obtain ⟨hp,hK⟩:=hK
  refine ⟨_,_,_,hK, ?_⟩
  rw [rO hp];exact aMa _ _ _
 ·exact hK.elim
noncomputable def s3 :bT Tryz.prog:=(((s2).add 110 R6 Z6).add 66 RY ZO).add 64 LR S8
theorem aEh(X Y:Nat->Int)(n:Nat)(K:KC):run s3 2 65 [.ro n 2 (aN X Y)] [] K=
 (Br (decide ((↑n:Int)<3)) (K (SV.int .i64 42) [] []) (Br (decide ((↑n:Int)>64)) (K (SV.int .i64 42) [] []) ((pts (aN X Y))/\(Br (!!dO (fun (i:Nat)=>nF (px (aN X Y i)) (py (aN X Y i))) n) (K (SV.int .i64 40) [] []) (K (SV.int .i64 0) [] []))))):=by kernel_rfl
theorem aFk(X Y:Nat->Int)(n:Nat):aE Tryz.prog 65 [.ro n 2 (aN X Y)] [] (.int .i64 (jY n X Y)) [] []:=
 aS s3 2 fun _ _ K hK=>by
  rw [aEh]
  unfold jY at hK
  refine Br.of (fun c=> ?_) fun c=>Br.of (fun c2=> ?_) fun c2=>⟨fun _=>rfl,Br.of (fun c3=> ?_) fun c3=> ?_⟩
  ·rw [c] at hK;exact hK
  ·rw [c,c2] at hK;exact hK
  ·have c3':dO (fun i=>nF (X i) (Y i)) n=true:=by rw [fj] at c3;exact c3
   rw [c,c2,c3'] at hK;exact hK
  ·have c3':dO (fun i=>nF (X i) (Y i)) n=false:=by rw [fj] at c3;exact c3
   rw [c,c2,c3'] at hK;exact hK
theorem aAe(xs:List SV)(σ:List (Option SB)):Sat Tryz.prog 65 xs σ (wY xs σ):=by
 intro K hK
 unfold wY at hK
 split at hK
 ·obtain ⟨hp,hK⟩:=hK
  refine ⟨_,_,_,hK, ?_⟩
  rw [rO hp];exact aFk _ _ _
 ·exact hK.elim
def LD :List (Nat×eI):=[(0,⟨[3,0,2],[],[],0,[]⟩)]
def Y9(X Y:Nat->Int)(n:Nat)(r:Int)(i:Int):St:=⟨[(3,.int .i64 i),(0,.ro n 2 (aN X Y)),(2,.int .i64 r)],[],0,[],30⟩
noncomputable abbrev X8 :Env:=fG LD (fun _=>0) s3 1
noncomputable abbrev aAU :Func:=Tryz.f112
theorem Y5(X Y:Nat->Int)(n:Nat)(K:KC):cL LD (fun _=>0) s3 2 112 [.ro n 2 (aN X Y)] [] K=
 (Br (decide ((↑n:Int)<2)) (K (SV.int .i64 42) [] []) (Br (decide ((↑n:Int)>64)) (K (SV.int .i64 42) [] []) ((pts (aN X Y))/\(Br (dO (fun (i:Nat)=>jG (px (aN X Y i)) (py (aN X Y i))) n) (K (SV.int .i64 40) [] []) (∃q_,aV X8 (aA LD 0) aAU [1,1,1,0,1,0] 0 0 K q_ {tmps:=[(3,SV.int .i64 1),(0,SV.ro n 2 (aN X Y)),(2,SV.int .i64 0)],store:=[],nxt:=0,dirty:=[],nt:=30}))))):=by kernel_rfl
theorem IH(X Y:Nat->Int)(n i:Nat)(K:Ex->St->Prop):aF X8 (aA LD 0) aAU [1,1,1,0,1,0] 0 K (Y9 X Y n 0 i)=
 (Br (decide ((↑i:Int)<(↑n:Int))) (Br (decide (0<=(↑i:Int))&&decide ((↑i:Int)<(↑n:Int))) (Br (decide (0<=IntKind.i64.wrap ((↑i:Int) - 1))&&decide (IntKind.i64.wrap ((↑i:Int) - 1)<(↑n:Int))) (Br (X (↑i:Int).toNat==X (IntKind.i64.wrap ((↑i:Int) - 1)).toNat&&Y (↑i:Int).toNat==Y (IntKind.i64.wrap ((↑i:Int) - 1)).toNat) (K Ex.ret {tmps:=[(3,SV.int .i64 (↑i:Int)),(0,SV.ro n 2 (aN X Y)),(2,SV.int .i64 43)],store:=[],nxt:=0,dirty:=[],nt:=30}) (K Ex.normal {tmps:=[(3,SV.int .i64 (IntKind.i64.wrap ((↑i:Int)+1))),(0,SV.ro n 2 (aN X Y)),(2,SV.int .i64 0)],store:=[],nxt:=0,dirty:=[],nt:=30})) (False)) (False)) (K (Ex.exit 0) {tmps:=[(3,SV.int .i64 (↑i:Int)),(0,SV.ro n 2 (aN X Y)),(2,SV.int .i64 0)],store:=[],nxt:=0,dirty:=[],nt:=30})):=by kernel_rfl
theorem aJ5(X Y:Nat->Int)(n:Nat)(r:Int)(i:Int)(K:KC):aB X8 (aA LD 0) aAU [1,1,1,0,1,0] 0 K .ret (Y9 X Y n r i)=
 (K (SV.int .i64 r) [] []):=by kernel_rfl
theorem YX(X Y:Nat->Int)(n:Nat)(r:Int)(i:Int)(K:KC):aB X8 (aA LD 0) aAU [1,1,1,0,1,0] 0 K (.exit 0) (Y9 X Y n r i)=
 (K (SV.int .i64 0) [] []):=by kernel_rfl
def QA(n:Nat)(X Y:Nat->Int):Int:=
 bif !(decide ((2:Int)<=n)&&decide ((n:Int)<=64)) then 42 else bif dO (fun k=>jG (X k) (Y k)) n then 40 else bif FH X Y n then 43 else 0
theorem aJQ(X Y:Nat->Int)(n:Nat):aE Tryz.prog 112 [.ro n 2 (aN X Y)] [] (.int .i64 (QA n X Y)) [] []:=
 eF LD (fun _=>0) s3 2 (fun _ h=>nomatch h) fun ⟨⟨hl,_⟩,_⟩ _ K hK=>by
  have hK:=hK [] fun _ h=>nomatch h
  rw [Y5]
  unfold QA at hK
  refine Br.of (fun c=> ?_) fun c=>Br.of (fun c2=> ?_) fun c2=>⟨fun _=>rfl,Br.of (fun c3=> ?_) fun c3=> ?_⟩
  ·rw [show decide ((2:Int)<=n)=false from aj (by have:=aa c;omega)] at hK;exact hK
  ·rw [show decide ((n:Int)<=64)=false from aj (by have:=aa c2;omega),em] at hK;exact hK
  all_goals
   have d1:=ae c
   have d2:=ae c2
   rw [show decide ((2:Int)<=n)=true from ao (by omega),show decide ((n:Int)<=64)=true from ao (by omega)] at hK
  ·have c3':dO (fun i=>jG (X i) (Y i)) n=true:=c3
   rw [c3'] at hK;exact hK
  ·have c3':dO (fun i=>jG (X i) (Y i)) n=false:=c3
   rw [c3'] at hK
   simp only [Bool.and_self,eb,ap] at hK
   refine iR (fun i:Nat=>Y9 X Y n 0 (i+1:Nat)) (n - 1) (QW X Y) (fun i=>aB X8 (aA LD 0) aAU [1,1,1,0,1,0] 0 K .ret (Y9 X Y n 43 (i+1:Nat))) (aB X8 (aA LD 0) aAU [1,1,1,0,1,0] 0 K (.exit 0) (Y9 X Y n 0 (n - 1+1:Nat))) (fun i hi Z h1 h2=> ?_) (fun Z h=> ?_) (fun i hi h _=> ?_) (fun h=> ?_)
   ·rw [IH,rS (by omega) (by omega),aK (n:=n) (by omega) (by omega)]
    simp only [am,Nat.add_sub_cancel]
    exact Br.of (fun _=>Br.of (fun _=>Br.of (fun _=>Br.of (fun c=>h1 c) fun c=>h2 c) fun c=>eA (by omega) c) fun c=>eA (by omega) c) fun c=>iI (by omega) c
   ·rw [IH,Nat.sub_add_cancel (by omega)]
    refine Br.of (fun c=>g7 c) fun _=> ?_
    rw [Nat.sub_add_cancel (by omega)] at h
    exact h
   ·show aB _ _ _ _ _ _ _ _
    rw [aJ5]
    rw [show FH X Y n=true from iS.2 ⟨i,hi,h⟩] at hK
    exact hK
   ·rw [YX]
    rw [show FH X Y n=false from e9.2 h] at hK
    exact hK
def VI :List SV->List (Option SB)->KC->Prop
 | [.ro n 2 g],[],K=>pts g/\K (.int .i64 (QA n (fun i=>px (g i)) (fun i=>py (g i)))) [] []
 |_,_,_=>False
theorem aAl(xs:List SV)(σ:List (Option SB)):Sat Tryz.prog 112 xs σ (VI xs σ):=by
 intro K hK
 unfold VI at hK
 split at hK
 ·obtain ⟨hp,hK⟩:=hK
  refine ⟨_,_,_,hK, ?_⟩
  rw [rO hp];exact aJQ _ _ _
 ·exact hK.elim
noncomputable def s4 :bT Tryz.prog:=(((s3).add 65 wY aAe).add 112 VI aAl).add 113 (one MI) (aT fun xs σ v σ' d h=>by
  unfold MI at h;split at h<;>cases h;first|exact dB|exact dB _|exact dB _ _|exact dB _ _ _|exact dB _ _ _ _|exact dB _ _ _ _ _|exact dB _ _ _ _ _ _|exact dB _ _ _ _ _ _ _|exact dB _ _ _ _ _ _ _ _|exact dB _ _ _ _ _ _ _ _ _|exact dB _ _ _ _ _ _ _ _ _ _|exact dB _ _ _ _ _ _ _ _ _ _ _)
def rwR :List (Nat×eI):=[(0,⟨[1,2,3,4],[0],[1,2,3,4],1,[]⟩),(2,⟨[1,2,3,6],[0],[1,2,3,4],1,[]⟩)]
def rwS(t:Trk)(c a i:Int):St:=⟨[(1,.ptr 0 0),(2,.int .i64 c),(3,.int .i64 a),(4,.int .i64 i)],[(0,some (.cells 34 (aI t)))],1,[1,2,3,4],56⟩
def rwT(t:Trk)(c a i:Int):St:=⟨[(1,.ptr 0 0),(2,.int .i64 c),(3,.int .i64 a),(6,.int .i64 i)],[(0,some (.cells 34 (aI t)))],1,[1,2,3,4],56⟩
noncomputable abbrev rwE :Env:=fG rwR (fun _=>0) s4 1
noncomputable abbrev rwF :Func:=Tryz.f67
theorem aD6(t:Trk)(K:KC):cL rwR (fun _=>0) s4 2 67 [.agg (aI t)] [] K=
 (Br (decide ((↑t.nr:Int)>16)) (K (SV.tup [SV.int .i64 42,SV.int .i64 0]) [] []) (∃q_,aV rwE (aA rwR 0) rwF [1,1,0,1,0] 0 0 K q_ {tmps:=[(1,SV.ptr 0 0),(2,SV.int .i64 0),(3,SV.int .i64 0),(4,SV.int .i64 0)],store:=[(0,some (SB.cells 34 (aI t)))],nxt:=1,dirty:=[1,2,3,4],nt:=56})):=by kernel_rfl
theorem Q3(t:Trk)(i:Nat)(K:Ex->St->Prop):aF rwE (aA rwR 0) rwF [1,1,0,1,0] 0 K (rwS t 0 0 i)=
 (Br (decide ((↑i:Int)<(↑t.nr:Int))) (Br (decide (0<=(↑i:Int))&&decide ((↑i:Int)<(↑t.nr:Int))) ((pts (bA (t.rx (↑i:Int).toNat) (t.ry (↑i:Int).toNat)))/\(Br ((QA (t.rn (↑i:Int).toNat) (fun (i_1:Nat)=>px (bA (t.rx (↑i:Int).toNat) (t.ry (↑i:Int).toNat) i_1)) fun (i_1:Nat)=>py (bA (t.rx (↑i:Int).toNat) (t.ry (↑i:Int).toNat) i_1)) !=0) (K Ex.ret {tmps:=[(1,SV.ptr 0 0),(2,SV.int .i64 (QA (t.rn (↑i:Int).toNat) (fun (i_1:Nat)=>px (bA (t.rx (↑i:Int).toNat) (t.ry (↑i:Int).toNat) i_1)) fun (i_1:Nat)=>py (bA (t.rx (↑i:Int).toNat) (t.ry (↑i:Int).toNat) i_1))),(3,SV.int .i64 (↑i:Int)),(4,SV.int .i64 (↑i:Int))],store:=[(0,some (SB.cells 34 (aI t)))],nxt:=1,dirty:=[1,2,3,4],nt:=56}) (K Ex.normal {tmps:=[(1,SV.ptr 0 0),(2,SV.int .i64 0),(3,SV.int .i64 0),(4,SV.int .i64 (IntKind.i64.wrap ((↑i:Int)+1)))],store:=[(0,some (SB.cells 34 (aI t)))],nxt:=1,dirty:=[1,2,3,4],nt:=56}))) (False)) (K (Ex.exit 0) {tmps:=[(1,SV.ptr 0 0),(2,SV.int .i64 0),(3,SV.int .i64 0),(4,SV.int .i64 (↑i:Int))],store:=[(0,some (SB.cells 34 (aI t)))],nxt:=1,dirty:=[1,2,3,4],nt:=56})):=by kernel_rfl
theorem aKS(t:Trk)(c a i:Int)(K:KC):aB rwE (aA rwR 0) rwF [1,1,0,1,0] 0 K .ret (rwS t c a i)=
 (K (SV.tup [SV.int .i64 c,SV.int .i64 a]) [] []):=by kernel_rfl
theorem aFc(t:Trk)(i:Int)(K:KC):aB rwE (aA rwR 0) rwF [1,1,0,1,0] 0 K (.exit 0) (rwS t 0 0 i)=
 (Br (decide ((↑t.nt:Int)<1)) (K (SV.tup [SV.int .i64 42,SV.int .i64 0]) [] []) (Br (decide ((↑t.nt:Int)>16)) (K (SV.tup [SV.int .i64 42,SV.int .i64 0]) [] []) (∃q_,aV rwE (aA rwR 0) rwF [1,1,1,1,0,1,0] 2 0 K q_ {tmps:=[(1,SV.ptr 0 0),(2,SV.int .i64 0),(3,SV.int .i64 0),(6,SV.int .i64 0)],store:=[(0,some (SB.cells 34 (aI t)))],nxt:=1,dirty:=[1,2,3,4],nt:=56}))):=by kernel_rfl
theorem H9(t:Trk)(i:Nat)(K:Ex->St->Prop):aF rwE (aA rwR 0) rwF [1,1,1,1,0,1,0] 2 K (rwT t 0 0 i)=
 (Br (decide ((↑i:Int)<(↑t.nt:Int))) (Br (decide (0<=(↑i:Int))&&decide ((↑i:Int)<(↑t.nt:Int))) (Br (QD (t.ax (↑i:Int).toNat) (t.ay (↑i:Int).toNat) (t.bx (↑i:Int).toNat) (t.sb (↑i:Int).toNat) !=0) (K Ex.ret {tmps:=[(1,SV.ptr 0 0),(2,SV.int .i64 (QD (t.ax (↑i:Int).toNat) (t.ay (↑i:Int).toNat) (t.bx (↑i:Int).toNat) (t.sb (↑i:Int).toNat))),(3,SV.int .i64 (↑i:Int)),(6,SV.int .i64 (↑i:Int))],store:=[(0,some (SB.cells 34 (aI t)))],nxt:=1,dirty:=[1,2,3,4],nt:=56}) (K Ex.normal {tmps:=[(1,SV.ptr 0 0),(2,SV.int .i64 0),(3,SV.int .i64 0),(6,SV.int .i64 (IntKind.i64.wrap ((↑i:Int)+1)))],store:=[(0,some (SB.cells 34 (aI t)))],nxt:=1,dirty:=[1,2,3,4],nt:=56})) (False)) (K (Ex.exit 2) {tmps:=[(1,SV.ptr 0 0),(2,SV.int .i64 0),(3,SV.int .i64 0),(6,SV.int .i64 (↑i:Int))],store:=[(0,some (SB.cells 34 (aI t)))],nxt:=1,dirty:=[1,2,3,4],nt:=56})):=by kernel_rfl
theorem aGZ(t:Trk)(c a i:Int)(K:KC):aB rwE (aA rwR 0) rwF [1,1,1,1,0,1,0] 0 K .ret (rwT t c a i)=
 (K (SV.tup [SV.int .i64 c,SV.int .i64 a]) [] []):=by kernel_rfl
theorem aBs(t:Trk)(i:Int)(K:KC):aB rwE (aA rwR 0) rwF [1,1,1,1,0,1,0] 0 K (.exit 2) (rwT t 0 0 i)=
 (K (SV.tup [SV.int .i64 0,SV.int .i64 0]) [] []):=by kernel_rfl
def rbR :List (Nat×eI):=[(0,⟨[1,3,4],[0,1],[1,2,3,4,5],2,[(3,1)]⟩),(2,⟨[1,3,4,5],[0,1],[1,2,3,4,5],2,[(3,1)]⟩)]
def rbS(t:Trk)(o:SV)(b:Option SB)(i:Int):St:=⟨[(1,.ptr 0 0),(3,o),(4,.int .i64 i)],[(0,some (.cells 34 (aI t))),(1,b)],2,[1,2,3,4,5],46⟩
def K5(t:Trk)(o:SV)(b:Option SB)(i k:Int):St:=⟨[(1,.ptr 0 0),(3,o),(4,.int .i64 i),(5,.int .i64 k)],[(0,some (.cells 34 (aI t))),(1,b)],2,[1,2,3,4,5],46⟩
noncomputable abbrev rbE :Env:=fG rbR (fun _=>0) s4 1
noncomputable abbrev rbF :Func:=Tryz.f68
abbrev rbP :List Nat:=[1,1,0,1,0]
abbrev rbI :List Nat:=[1,0,0,1,0]
theorem aDM(t:Trk)(K:KC):cL rbR (fun _=>0) s4 2 68 [.agg (aI t)] [] K=
 (∃q_,aV rbE (aA rbR 0) rbF rbP 0 0 K q_ {tmps:=[(1,SV.ptr 0 0),(3,SV.nils),(4,SV.int .i64 0)],store:=[(0,some (SB.cells 34 (aI t))),(1,none)],nxt:=2,dirty:=[1,2,3,4,5],nt:=46}):=by kernel_rfl
theorem aAH(t:Trk)(i:Nat)(K:Ex->St->Prop):aF rbE (aA rbR 0) rbF rbP 0 K (rbS t .nils none i)=
 (Br (decide ((↑i:Int)<(↑t.nr:Int))) (∃q_,iter (aF rbE (aA rbR 0) rbF (rbP++[0]++rbI) 2) (iM rbE (aA rbR 0) rbF rbP 0 rbI K) q_ {tmps:=[(1,SV.ptr 0 0),(3,SV.nils),(4,SV.int .i64 (↑i:Int)),(5,SV.int .i64 1)],store:=[(0,some (SB.cells 34 (aI t))),(1,none)],nxt:=2,dirty:=[1,2,3,4,5],nt:=46}) (K (Ex.exit 0) {tmps:=[(1,SV.ptr 0 0),(3,SV.nils),(4,SV.int .i64 (↑i:Int))],store:=[(0,some (SB.cells 34 (aI t))),(1,none)],nxt:=2,dirty:=[1,2,3,4,5],nt:=46})):=by kernel_rfl
theorem Z5(t:Trk)(m:Nat)(g:Nat->List SV)(i:Nat)(K:Ex->St->Prop):aF rbE (aA rbR 0) rbF rbP 0 K (rbS t (.own 1 0 5 m) (some (.row 123 5 m g)) i)=
 (Br (decide ((↑i:Int)<(↑t.nr:Int))) (∃q_,iter (aF rbE (aA rbR 0) rbF (rbP++[0]++rbI) 2) (iM rbE (aA rbR 0) rbF rbP 0 rbI K) q_ {tmps:=[(1,SV.ptr 0 0),(3,SV.own 1 0 5 m),(4,SV.int .i64 (↑i:Int)),(5,SV.int .i64 1)],store:=[(0,some (SB.cells 34 (aI t))),(1,some (SB.row 123 5 m g))],nxt:=2,dirty:=[1,2,3,4,5],nt:=46}) (K (Ex.exit 0) {tmps:=[(1,SV.ptr 0 0),(3,SV.own 1 0 5 m),(4,SV.int .i64 (↑i:Int))],store:=[(0,some (SB.cells 34 (aI t))),(1,some (SB.row 123 5 m g))],nxt:=2,dirty:=[1,2,3,4,5],nt:=46})):=by kernel_rfl
theorem aKd(t:Trk)(i k:Nat)(K:Ex->St->Prop):aF rbE (aA rbR 0) rbF (rbP++[0]++rbI) 2 K (K5 t .nils none i k)=
 (Br (decide (0<=(↑i:Int))&&decide ((↑i:Int)<(↑t.nr:Int))) (Br (decide ((↑k:Int)<(↑(t.rn (↑i:Int).toNat):Int))) (Br (decide (0<=(↑i:Int))&&decide ((↑i:Int)<(↑t.nr:Int))) (Br (decide (0<=IntKind.i64.wrap ((↑k:Int) - 1))&&decide (IntKind.i64.wrap ((↑k:Int) - 1)<(↑(t.rn (↑i:Int).toNat):Int))) (Br (decide (0<=(↑i:Int))&&decide ((↑i:Int)<(↑t.nr:Int))) (Br (decide (0<=(↑k:Int))&&decide ((↑k:Int)<(↑(t.rn (↑i:Int).toNat):Int))) (K Ex.normal {tmps:=[(1,SV.ptr 0 0),(3,SV.own 1 0 5 1),(4,SV.int .i64 (↑i:Int)),(5,SV.int .i64 (IntKind.i64.wrap ((↑k:Int)+1)))],store:=[(0,some (SB.cells 34 (aI t))),(1,some (SB.row 123 5 1 fun (i_1:Nat)=>cut [SV.int .i64 (t.rx (↑i:Int).toNat (IntKind.i64.wrap ((↑k:Int) - 1)).toNat),SV.int .i64 (t.ry (↑i:Int).toNat (IntKind.i64.wrap ((↑k:Int) - 1)).toNat),SV.int .i64 (t.rx (↑i:Int).toNat (↑k:Int).toNat),SV.int .i64 (t.ry (↑i:Int).toNat (↑k:Int).toNat),SV.int .i64 (↑i:Int)] (i_1*5) 5))],nxt:=2,dirty:=[1,2,3,4,5],nt:=46}) (False)) (False)) (False)) (False)) (K (Ex.exit 2) {tmps:=[(1,SV.ptr 0 0),(3,SV.nils),(4,SV.int .i64 (↑i:Int)),(5,SV.int .i64 (↑k:Int))],store:=[(0,some (SB.cells 34 (aI t))),(1,none)],nxt:=2,dirty:=[1,2,3,4,5],nt:=46})) (False)):=by kernel_rfl
theorem aJv(t:Trk)(m:Nat)(g:Nat->List SV)(i k:Nat)(K:Ex->St->Prop):aF rbE (aA rbR 0) rbF (rbP++[0]++rbI) 2 K (K5 t (.own 1 0 5 m) (some (.row 123 5 m g)) i k)=
 (Br (decide (0<=(↑i:Int))&&decide ((↑i:Int)<(↑t.nr:Int))) (Br (decide ((↑k:Int)<(↑(t.rn (↑i:Int).toNat):Int))) (Br (decide (0<=(↑i:Int))&&decide ((↑i:Int)<(↑t.nr:Int))) (Br (decide (0<=IntKind.i64.wrap ((↑k:Int) - 1))&&decide (IntKind.i64.wrap ((↑k:Int) - 1)<(↑(t.rn (↑i:Int).toNat):Int))) (Br (decide (0<=(↑i:Int))&&decide ((↑i:Int)<(↑t.nr:Int))) (Br (decide (0<=(↑k:Int))&&decide ((↑k:Int)<(↑(t.rn (↑i:Int).toNat):Int))) (Br (decide ((m+1)*40<=1099511627776)&&decide (m+1<9223372036854775808)&&decide (m=m)) (K Ex.normal {tmps:=[(1,SV.ptr 0 0),(3,SV.own 1 0 5 (m+1)),(4,SV.int .i64 (↑i:Int)),(5,SV.int .i64 (IntKind.i64.wrap ((↑k:Int)+1)))],store:=[(0,some (SB.cells 34 (aI t))),(1,some (SB.row 123 5 (m+1) (bK m [SV.int .i64 (t.rx (↑i:Int).toNat (IntKind.i64.wrap ((↑k:Int) - 1)).toNat),SV.int .i64 (t.ry (↑i:Int).toNat (IntKind.i64.wrap ((↑k:Int) - 1)).toNat),SV.int .i64 (t.rx (↑i:Int).toNat (↑k:Int).toNat),SV.int .i64 (t.ry (↑i:Int).toNat (↑k:Int).toNat),SV.int .i64 (↑i:Int)] g)))],nxt:=2,dirty:=[1,2,3,4,5],nt:=46}) (False)) (False)) (False)) (False)) (False)) (K (Ex.exit 2) {tmps:=[(1,SV.ptr 0 0),(3,SV.own 1 0 5 m),(4,SV.int .i64 (↑i:Int)),(5,SV.int .i64 (↑k:Int))],store:=[(0,some (SB.cells 34 (aI t))),(1,some (SB.row 123 5 m g))],nxt:=2,dirty:=[1,2,3,4,5],nt:=46})) (False)):=by kernel_rfl
theorem aCh(t:Trk)(i k:Nat)(K:Ex->St->Prop):iM rbE (aA rbR 0) rbF rbP 0 rbI K (.exit 2) (K5 t .nils none i k)=
 (K Ex.normal {tmps:=[(1,SV.ptr 0 0),(3,SV.nils),(4,SV.int .i64 (IntKind.i64.wrap ((↑i:Int)+1)))],store:=[(0,some (SB.cells 34 (aI t))),(1,none)],nxt:=2,dirty:=[1,2,3,4,5],nt:=46}):=by kernel_rfl
theorem aCv(t:Trk)(m:Nat)(g:Nat->List SV)(i k:Nat)(K:Ex->St->Prop):iM rbE (aA rbR 0) rbF rbP 0 rbI K (.exit 2) (K5 t (.own 1 0 5 m) (some (.row 123 5 m g)) i k)=
 (K Ex.normal {tmps:=[(1,SV.ptr 0 0),(3,SV.own 1 0 5 m),(4,SV.int .i64 (IntKind.i64.wrap ((↑i:Int)+1)))],store:=[(0,some (SB.cells 34 (aI t))),(1,some (SB.row 123 5 m g))],nxt:=2,dirty:=[1,2,3,4,5],nt:=46}):=by kernel_rfl
theorem aAM(t:Trk)(i:Nat)(K:KC):aB rbE (aA rbR 0) rbF rbP 0 K (.exit 0) (rbS t .nils none i)=
 (K SV.nils [] []):=by kernel_rfl
theorem X4(t:Trk)(m:Nat)(g:Nat->List SV)(i:Nat)(K:KC):aB rbE (aA rbR 0) rbF rbP 0 K (.exit 0) (rbS t (.own 1 0 5 m) (some (.row 123 5 m g)) i)=
 (K (SV.own 0 0 5 m) [some (SB.row 123 5 m g)] []):=by kernel_rfl
def aAi(c:Int×Int)(K:KC):Prop:=K (.tup [.int .i64 c.1,.int .i64 c.2]) [] []
def mY(t:Trk):Int×Int:=orV (nH t) (oY t)
theorem ID{c:Nat->Int}{n i:Nat}(hi:i<n)(h:c i≠0)(hl: ∀j,j<i->c j=0):qK c n 0=(c i,(i:Int)):=by
 have: ∀k,k<=i->qK c (n - k) k=qK c n 0:=by
  intro k
  induction k with
  |zero=>intro _;rw [dk]
  |succ k ih=>intro hk;rw [<- ih (by omega)];exact (zI (by omega) (hl k (by omega))).symm
 rw [<- this i (av _),VV hi rfl (ei.2 h)]
theorem OT{c:Nat->Int}{n:Nat}(hl: ∀j,j<n->c j=0):qK c n 0=(0,0):=by
 have: ∀k,k<=n->qK c (n - k) k=qK c n 0:=by
  intro k
  induction k with
  |zero=>intro _;rw [dk]
  |succ k ih=>intro hk;rw [<- ih (by omega)];exact (zI (by omega) (hl k (by omega))).symm
 rw [<- this n (av _),Nat.sub_self];rfl
theorem aJ6(t:Trk)(h1:t.nr<9223372036854775808)(h2:t.nt<9223372036854775808)(K:KC)(hK:aAi (mY t) K):cL rwR (fun _=>0) s4 2 67 [.agg (aI t)] [] K:=by
 rw [aD6]
 unfold aAi mY orV nH at hK
 refine Br.of (fun c=> ?_) fun c=> ?_
 ·rw [c] at hK;exact hK
 rw [c] at hK
 simp only [ap] at hK
 refine iR (fun i:Nat=>rwS t 0 0 i) t.nr (fun i=>yP t i !=0) (fun i=>aB rwE (aA rwR 0) rwF [1,1,0,1,0] 0 K .ret (rwS t (yP t i) i i)) (aB rwE (aA rwR 0) rwF [1,1,0,1,0] 0 K (.exit 0) (rwS t 0 0 t.nr)) (fun i hi Z h1 h2=> ?_) (fun Z h=> ?_) (fun i hi h hl=> ?_) (fun h=> ?_)
 ·rw [Q3,aK hi (by omega)]
  simp only [am]
  exact Br.of (fun _=>Br.of (fun _=>⟨fun _=>rfl,Br.of (fun c=>h1 c) fun c=>h2 c⟩) fun c=>eA hi c) fun c=>iI hi c
 ·rw [Q3]
  exact Br.of (fun c=>g7 c) fun _=>h
 ·show aB _ _ _ _ _ _ _ _
  rw [aKS]
  rw [ID hi (ei.1 h) (fun j hj=>M4 (hl j hj))] at hK
  simp only [h,ar] at hK
  exact hK
 ·rw [aFc]
  rw [OT fun j hj=>M4 (h j hj)] at hK
  simp only [bne_self_eq_false,ap] at hK
  unfold oY at hK
  refine Br.of (fun c=> ?_) fun c=>Br.of (fun c2=> ?_) fun c2=> ?_
  ·rw [show decide ((1:Int)<=t.nt)=false from aj (by have:=aa c;omega)] at hK;exact hK
  ·rw [show decide ((t.nt:Int)<=16)=false from aj (by have:=aa c2;omega),em] at hK;exact hK
  ·rw [show decide ((1:Int)<=t.nt)=true from ao (by have:=ae c;omega),show decide ((t.nt:Int)<=16)=true from ao (by have:=ae c2;omega)] at hK
   simp only [Bool.and_self,eb,ap] at hK
   refine iR (fun i:Nat=>rwT t 0 0 i) t.nt (fun i=>EA t i !=0) (fun i=>aB rwE (aA rwR 0) rwF [1,1,1,1,0,1,0] 0 K .ret (rwT t (EA t i) i i)) (aB rwE (aA rwR 0) rwF [1,1,1,1,0,1,0] 0 K (.exit 2) (rwT t 0 0 t.nt)) (fun i hi Z h1 h2=> ?_) (fun Z h=> ?_) (fun i hi h hl=> ?_) (fun h=> ?_)
   ·rw [H9,aK hi (by omega)]
    simp only [am]
    exact Br.of (fun _=>Br.of (fun _=>Br.of (fun c=>h1 c) fun c=>h2 c) fun c=>eA hi c) fun c=>iI hi c
   ·rw [H9]
    exact Br.of (fun c=>g7 c) fun _=>h
   ·show aB _ _ _ _ _ _ _ _
    rw [aGZ]
    rw [ID hi (ei.1 h) (fun j hj=>M4 (hl j hj))] at hK
    exact hK
   ·rw [aBs]
    rw [OT fun j hj=>M4 (h j hj)] at hK
    exact hK
theorem aCT (t:Trk) (i n:Nat) (L0:List Bar) (hi:i<t.nr) (hi2:t.nr<=20) (hr:t.rn i<=100) (hn:n=t.rn i - 1) (hL:L0.length<=2000) (K:Ex->St->Prop)
  (hK: ∀o b,bU uQ 5 1 bsv (L0++kI t i n) o b->K .normal (rbS t o b (i+1:Nat))):
  ∀(f:Nat) (a:Nat×SV×Option SB),(a.1<=n/\bU uQ 5 1 bsv (L0++kI t i a.1) a.2.1 a.2.2)->n - a.1<f->
   iter (aF rbE (aA rbR 0) rbF (rbP++[0]++rbI) 2) (iM rbE (aA rbR 0) rbF rbP 0 rbI K) f (K5 t a.2.1 a.2.2 i (a.1+1:Nat)):=
 iH (fun a:Nat×SV×Option SB=>K5 t a.2.1 a.2.2 i (a.1+1:Nat)) (fun a=>n - a.1) (fun a=>a.1<=n/\bU uQ 5 1 bsv (L0++kI t i a.1) a.2.1 a.2.2) (fun a=>by
  obtain ⟨k,o,b⟩:=a
  rintro ⟨hk,ht⟩ Z hZ
  simp only at hk ht hZ|-
  rcases ht with ⟨hl,rfl,rfl⟩|⟨g,hl,rfl,rfl,hg⟩
  ·rw [aKd,rS (k:=k+1) (by omega) (by omega)]
   simp only [am,Nat.add_sub_cancel]
   refine Br.of (fun _=>Br.of (fun c=>Br.of (fun _=>Br.of (fun _=>Br.of (fun _=>Br.of (fun _=> ?_) fun c1=> ?_) fun c1=>eA hi c1) fun c1=> ?_) fun c1=>eA hi c1) fun c=> ?_) fun c1=>eA hi c1
   ·have c':=aa c
    show Z _
    rw [aK (n:=n+1) (by omega) (by omega)]
    refine hZ (k+1,_,_) ⟨by show k+1<=n;omega, ?_⟩ (by show n - (k+1)<n - k;omega)
    show bU uQ 5 1 bsv (L0++kI t i (k+1)) _ _
    rw [tW,<- bo,hl,dj]
    exact eT (yV t i k) rfl
   ·have c':=aa c
    exact eA (by omega) c1
   ·have c':=aa c
    exact eA (by omega) c1
   ·have c':=ae c
    have hkn:k=n:=by omega
    subst hkn
    show iM rbE (aA rbR 0) rbF rbP 0 rbI K (.exit 2) (K5 t .nils none i (k+1:Nat))
    rw [aCh,aK (n:=20) (by omega) (by omega)]
    exact hK _ _ (.inl ⟨hl,rfl,rfl⟩)
  ·rw [aJv,rS (k:=k+1) (by omega) (by omega)]
   simp only [am,Nat.add_sub_cancel]
   have hlen:(L0++kI t i k).length<=2100:=by rw [au,A4];omega
   refine Br.of (fun _=>Br.of (fun c=>Br.of (fun _=>Br.of (fun _=>Br.of (fun _=>Br.of (fun _=>Br.of (fun _=> ?_) fun c1=> ?_) fun c1=> ?_) fun c1=>eA hi c1) fun c1=> ?_) fun c1=>eA hi c1) fun c=> ?_) fun c1=>eA hi c1
   ·have c':=aa c
    show Z _
    rw [aK (n:=n+1) (by omega) (by omega)]
    refine hZ (k+1,_,_) ⟨by show k+1<=n;omega, ?_⟩ (by show n - (k+1)<n - k;omega)
    show bU uQ 5 1 bsv (L0++kI t i (k+1)) _ _
    rw [tW,<- bo]
    exact fQ (yV t i k) rfl hg
   ·rw [bf,bf] at c1
    rcases c1 with (c1|c1)|c1
    ·have:=ae c1;omega
    ·have:=ae c1;omega
    ·simp at c1
   ·have c':=aa c
    exact eA (by omega) c1
   ·have c':=aa c
    exact eA (by omega) c1
   ·have c':=ae c
    have hkn:k=n:=by omega
    subst hkn
    show iM rbE (aA rbR 0) rbF rbP 0 rbI K (.exit 2) (K5 t _ _ i (k+1:Nat))
    rw [aCv,aK (n:=20) (by omega) (by omega)]
    exact hK _ _ (.inr ⟨g,hl,rfl,rfl,hg⟩))
theorem YP(t:Trk)(hs:g8 t)(K:KC)(hK:lC uQ 5 bsv (mR t) K):cL rbR (fun _=>0) s4 2 68 [.agg (aI t)] [] K:=by
 rw [aDM]
 obtain ⟨hs1,hs2⟩:=hs
 refine ⟨t.nr+1,iH (fun a:Nat×SV×Option SB=>rbS t a.2.1 a.2.2 a.1) (fun a=>t.nr - a.1) (fun a=>a.1<=t.nr/\bU uQ 5 1 bsv (lJ t a.1) a.2.1 a.2.2) (fun a=> ?_) (t.nr+1) (0,.nils,none) ⟨cn _,lS⟩ (by omega)⟩
 obtain ⟨i,o,b⟩:=a
 rintro ⟨hi,ht⟩ Z hZ
 simp only at hi ht hZ|-
 have hlen:(lJ t i).length<=2000:=by
  have:=nW hs2 i hi
  have:i*100<=20*100:=bj _ (by omega)
  omega
 have hinner:i<t.nr-> ∃q,iter (aF rbE (aA rbR 0) rbF (rbP++[0]++rbI) 2) (iM rbE (aA rbR 0) rbF rbP 0 rbI (gM Z (aB rbE (aA rbR 0) rbF rbP 0 K))) q (K5 t o b i (0+1:Nat)):=fun hlt=>
  ⟨(t.rn i - 1)+1,aCT t i (t.rn i - 1) (lJ t i) hlt hs1 (hs2 i hlt) rfl hlen _ (fun o b h=>hZ (i+1,o,b) ⟨hlt,h⟩ (by show t.nr - (i+1)<t.nr - i;omega)) _ (0,o,b)
   ⟨cn _,by show bU uQ 5 1 bsv (lJ t i++kI t i 0) o b;rw [show kI t i 0=[] from rfl,cm];exact ht⟩ (by show t.rn i - 1 - 0<_;omega)⟩
 have hend:i=t.nr->bU uQ 5 1 bsv (mR t) o b:=fun h=>by subst h;exact ht
 rcases ht with ⟨hl,rfl,rfl⟩|⟨g,hl,rfl,rfl,hg⟩
 ·rw [aAH]
  refine Br.of (fun c=>hinner (by have:=aa c;omega)) fun c=> ?_
  have c':=ae c
  show aB rbE (aA rbR 0) rbF rbP 0 K (.exit 0) (rbS t .nils none i)
  rw [aAM]
  rcases hend (by omega) with ⟨h,_,_⟩|⟨_,_,h,_⟩
  ·exact hK.1 h
  ·cases h
 ·rw [Z5]
  refine Br.of (fun c=>hinner (by have:=aa c;omega)) fun c=> ?_
  have c':=ae c
  show aB rbE (aA rbR 0) rbF rbP 0 K (.exit 0) (rbS t _ _ i)
  rw [X4]
  have hi':i=t.nr:=by omega
  subst hi'
  exact hK.2 g hl hg
theorem aFg(t:Trk)(hs:g8 t):aE Tryz.prog 68 [.agg (aI t)] [] (.ro (mR t).length 5 (tY (mR t))) [] []:=
 vL (fun _=>rfl) fun K hK=>bS (env:=tab.env s4 (fun _=>0) (fun _=>false)) ⟨tab.htt,s4.ok⟩ tab.mixed (fun n=>aY n rbR) tab.hft 2 _ _ _ K (YP t hs K hK)
theorem aA7(xs:List SV)(σ:List (Option SB)):Sat Tryz.prog 68 xs σ (JO xs σ):=by
 intro K hK
 unfold JO at hK
 split at hK
 ·obtain ⟨h1,h2,hK⟩:=hK
  refine ⟨_,_,_,hK, ?_⟩
  rw [i5 h1]
  exact aFg _ h2
 ·exact hK.elim
def Y8(v:Trk->Int×Int):List SV->List (Option SB)->KC->Prop
 | [.agg [.int .i64 a0,.int .i64 a1,.int .i64 a2,.int .i64 a3,.int .i64 a4,.int .i64 a5,.ro nh 1 h,.ro ng 1 g,.ro nk 3 kg,.ro nl 2 l,.ro nr 1 rl,.ro nt 5 gt,.int .i64 sx,.int .i64 sy,.int .u32 hd,.int .i64 lp]],[],K=>iX h g kg l rl gt/\jW nr rl/\aAi (v (mZ a0 a1 a2 a3 a4 a5 nh h ng g nk kg nl l nr rl nt gt sx sy hd lp)) K
 |_,_,_=>False
theorem QF{k:FuncId}{v:Trk->Int×Int}(h: ∀t:Trk,g8 t->t.nr<9223372036854775808->t.nt<9223372036854775808->Sat Tryz.prog k [.agg (aI t)] [] (aAi (v t)))(xs:List SV)(σ:List (Option SB)):Sat Tryz.prog k xs σ (Y8 v xs σ):=by
 refine pM (fun K hK=> ?_) fun hx _ K hK=> ?_<;>unfold Y8 at hK<;>split at hK
 ·exact ⟨_,_,_,hK.2.2⟩
 ·exact hK.elim
 ·obtain ⟨⟨_,_,_,_,_,_,_,_,_,_,hr,ht,_⟩,_⟩:=hx
  rw [i5 hK.1]
  refine h _ ?_ hr.1 ht.1 K hK.2.2
  exact hK.2.1
 ·exact hK.elim
theorem aFo(xs:List SV)(σ:List (Option SB)):Sat Tryz.prog 67 xs σ (Y8 mY xs σ):=
 QF (fun t _ h1 h2 K hK=>bS (env:=tab.env s4 (fun _=>0) (fun _=>false)) ⟨tab.htt,s4.ok⟩ tab.mixed (fun n=>aY n rwR) tab.hft 2 _ _ _ K (aJ6 t h1 h2 K hK)) xs σ
noncomputable def s5 :bT Tryz.prog:=((s4).add 68 JO aA7).add 67 (Y8 mY) aFo
theorem aCF(ax ay bx ey x y:Int)(K:KC):run s5 3 118 [.agg [.int .i64 ax,.int .i64 ay],.agg [.int .i64 bx,.int .i64 ey],.agg [.int .i64 x,.int .i64 y]] [] K=
 (fun p q=>Br (dvS (aQ p)==0) (If (okX q&&CT (aQ p)) (K (nSV (A5 (nvX q) (nvD false (aQ p)))) [] [])) (If (okX q&&CT (aQ p)) (K (nSV (A5 (nvX q) (nvD (!decide (p<0)) (aQ p)))) [] [])))
  (w64 (ey - ay)*w64 (x - ax)) (w64 (bx - ax)*w64 (y - ay)):=by kernel_rfl
theorem jH(ax ay bx ey x y:Int):aE Tryz.prog 118 [.agg [.int .i64 ax,.int .i64 ay],.agg [.int .i64 bx,.int .i64 ey],.agg [.int .i64 x,.int .i64 y]] [] (nSV (qH ax ay bx ey x y)) [] []:=
 aS s5 3 fun _ _ K hK=>by
  rw [aCF]
  unfold qH at hK
  have r1:=lW (ey - ay)
  have r2:=lW (x - ax)
  have r3:=lW (bx - ax)
  have r4:=lW (y - ay)
  have m1:=rU r1.1 r1.2 r2.1 r2.2
  have m2:=rU r3.1 r3.2 r4.1 r4.2
  generalize w64 (ey - ay)*w64 (x - ax)=p at*
  generalize w64 (bx - ax)*w64 (y - ay)=q at*
  show Br _ _ _
  have h0:=eO p
  have hp:aQ p<340282366920938463463374607431768211456:=by unfold aQ;cases decide (p<0)<;>simp only [ar,ap]<;>omega
  rw [tZ h0 hp,oX (by omega) (by omega),K9 h0 hp,K9 h0 hp]
  refine Br.of (fun c=>If.mk (by rw [tH,mM];rfl) ?_) fun c=>If.mk (by rw [tH,mM];rfl) ?_
  ·have c':=eq_of_beq c
   have:p=0:=by unfold aQ at c';cases h:decide (p<0)<;>rw [h] at c'<;>simp only [ar,ap] at c'<;>omega
   subst this
   exact hK
  ·have:(bif !decide (p<0) then -aQ p else aQ p)= -p:=by unfold aQ;cases h:decide (p<0)<;>rfl
   rw [this];exact hK
theorem aGg(ax ay bx ey x y:Int)(K:KC):run s5 3 116 [.agg [.int .i64 ax,.int .i64 ay],.agg [.int .i64 bx,.int .i64 ey],.agg [.int .i64 x,.int .i64 y]] [] K=
 (fun p q=>If (okX p&&okX q) (K (nSV (A5 (nvX p) (nvX q))) [] [])) (w64 (bx - ax)*w64 (x - ax)) (w64 (ey - ay)*w64 (y - ay)):=by kernel_rfl
theorem lD(ax ay bx ey x y:Int):aE Tryz.prog 116 [.agg [.int .i64 ax,.int .i64 ay],.agg [.int .i64 bx,.int .i64 ey],.agg [.int .i64 x,.int .i64 y]] [] (nSV (TM ax ay bx ey x y)) [] []:=
 aS s5 3 fun _ _ K hK=>by
  rw [aGg]
  unfold TM at hK
  have r1:=lW (ey - ay)
  have r2:=lW (x - ax)
  have r3:=lW (bx - ax)
  have r4:=lW (y - ay)
  have m1:=rU r3.1 r3.2 r2.1 r2.2
  have m2:=rU r1.1 r1.2 r4.1 r4.2
  generalize w64 (ey - ay)*w64 (y - ay)=p at*
  generalize w64 (bx - ax)*w64 (x - ax)=q at*
  refine If.mk (by rw [tH,tH];rfl) ?_
  rw [oX (by omega) (by omega),oX (by omega) (by omega)]
  exact hK
theorem aGY(s:Bool)(a b c d:Int)(K:KC):run s5 3 117 [.agg [.bool s,.int .u64 a,.int .u64 b,.int .u64 c,.int .u64 d]] [] K=
 (Br (!s) (K (SV.agg [SV.bool !dv a b c d==0,SV.int .u64 a,SV.int .u64 b,SV.int .u64 c,SV.int .u64 d]) [] []) (K (SV.agg [SV.bool false,SV.int .u64 a,SV.int .u64 b,SV.int .u64 c,SV.int .u64 d]) [] [])):=by kernel_rfl
theorem kX(s:Bool)(a b c d:Int):aE Tryz.prog 117 [.agg [.bool s,.int .u64 a,.int .u64 b,.int .u64 c,.int .u64 d]] [] (.agg [.bool (!s&& !(dv a b c d==0)),.int .u64 a,.int .u64 b,.int .u64 c,.int .u64 d]) [] []:=
 aS s5 3 fun _ _ K hK=>by
  rw [aGY]
  refine Br.of (fun e=> ?_) fun e=> ?_<;>rw [e] at hK<;>exact hK
def aE4 :List SV->List (Option SB)->Out
 | [.agg [.int .i64 ax,.int .i64 ay],.agg [.int .i64 bx,.int .i64 ey],.agg [.int .i64 x,.int .i64 y]],[]=>some (nSV (qH ax ay bx ey x y),[],[])
 |_,_=>none
def aIz :List SV->List (Option SB)->Out
 | [.agg [.int .i64 ax,.int .i64 ay],.agg [.int .i64 bx,.int .i64 ey],.agg [.int .i64 x,.int .i64 y]],[]=>some (nSV (TM ax ay bx ey x y),[],[])
 |_,_=>none
def aIp :List SV->List (Option SB)->Out
 | [.agg [.bool s,.int .u64 a,.int .u64 b,.int .u64 c,.int .u64 d]],[]=>some (.agg [.bool (!s&& !(dv a b c d==0)),.int .u64 a,.int .u64 b,.int .u64 c,.int .u64 d],[],[])
 |_,_=>none
noncomputable def s6 :bT Tryz.prog:=(((s5).add 118 (one aE4) (aT fun xs σ v σ' d h=>by
  unfold aE4 at h;split at h<;>cases h;first|exact jH|exact jH _|exact jH _ _|exact jH _ _ _|exact jH _ _ _ _|exact jH _ _ _ _ _|exact jH _ _ _ _ _ _|exact jH _ _ _ _ _ _ _|exact jH _ _ _ _ _ _ _ _|exact jH _ _ _ _ _ _ _ _ _|exact jH _ _ _ _ _ _ _ _ _ _|exact jH _ _ _ _ _ _ _ _ _ _ _)).add 116 (one aIz) (aT fun xs σ v σ' d h=>by
  unfold aIz at h;split at h<;>cases h;first|exact lD|exact lD _|exact lD _ _|exact lD _ _ _|exact lD _ _ _ _|exact lD _ _ _ _ _|exact lD _ _ _ _ _ _|exact lD _ _ _ _ _ _ _|exact lD _ _ _ _ _ _ _ _|exact lD _ _ _ _ _ _ _ _ _|exact lD _ _ _ _ _ _ _ _ _ _|exact lD _ _ _ _ _ _ _ _ _ _ _)).add 117 (one aIp) (aT fun xs σ v σ' d h=>by
  unfold aIp at h;split at h<;>cases h;first|exact kX|exact kX _|exact kX _ _|exact kX _ _ _|exact kX _ _ _ _|exact kX _ _ _ _ _|exact kX _ _ _ _ _ _|exact kX _ _ _ _ _ _ _|exact kX _ _ _ _ _ _ _ _|exact kX _ _ _ _ _ _ _ _ _|exact kX _ _ _ _ _ _ _ _ _ _|exact kX _ _ _ _ _ _ _ _ _ _ _)
theorem aBN(ax ay bx ey x y:Int)(K:KC):run s6 3 114 [.agg [.int .i64 ax,.int .i64 ay],.agg [.int .i64 bx,.int .i64 ey],.agg [.int .i64 x,.int .i64 y]] [] K=
 (Br (!!uL ax ay bx ey x y) (K (SV.int .i64 0) [] []) (K (SV.int .i64 (gB (nvD (decide (qH ax ay bx ey x y<0)) (aQ (qH ax ay bx ey x y))) 0)) [] [])):=by kernel_rfl
def IN(ax ay bx ey x y:Int):Int:=bif uL ax ay bx ey x y then 0 else gB (qH ax ay bx ey x y) 0
theorem T9(s t:Int): -170141183460469231731687303715884105728<=A5 s t/\A5 s t<170141183460469231731687303715884105728:=by
 unfold A5
 cases h:dG (s+t)
 ·simp only [ap];omega
 ·simp only [ar];exact (jU _).1 h
theorem aDx{x:Int}(h0: -340282366920938463463374607431768211456<x)(h1:x<340282366920938463463374607431768211456):nvD (decide (x<0)) (aQ x)=x:=oX h0 h1
theorem i9(ax ay bx ey x y:Int):aE Tryz.prog 114 [.agg [.int .i64 ax,.int .i64 ay],.agg [.int .i64 bx,.int .i64 ey],.agg [.int .i64 x,.int .i64 y]] [] (.int .i64 (IN ax ay bx ey x y)) [] []:=
 aS s6 3 fun _ _ K hK=>by
  rw [aBN]
  have:=T9 (w64 (bx - ax)*w64 (y - ay)) (-(w64 (ey - ay)*w64 (x - ax)))
  rw [aDx (show _<qH ax ay bx ey x y by unfold qH;omega) (show qH ax ay bx ey x y<_ by unfold qH;omega)]
  unfold IN at hK
  refine Br.of (fun e=> ?_) fun e=> ?_<;>rw [fj] at e<;>rw [e] at hK<;>exact hK
def aDZ :List SV->List (Option SB)->Out
 | [.agg [.int .i64 ax,.int .i64 ay],.agg [.int .i64 bx,.int .i64 ey],.agg [.int .i64 x,.int .i64 y]],[]=>some (.int .i64 (IN ax ay bx ey x y),[],[])
 |_,_=>none
noncomputable def s7 :bT Tryz.prog:=(s6).add 114 (one aDZ) (aT fun xs σ v σ' d h=>by
  unfold aDZ at h;split at h<;>cases h;first|exact i9|exact i9 _|exact i9 _ _|exact i9 _ _ _|exact i9 _ _ _ _|exact i9 _ _ _ _ _|exact i9 _ _ _ _ _ _|exact i9 _ _ _ _ _ _ _|exact i9 _ _ _ _ _ _ _ _|exact i9 _ _ _ _ _ _ _ _ _|exact i9 _ _ _ _ _ _ _ _ _ _|exact i9 _ _ _ _ _ _ _ _ _ _ _)
def ryR :List (Nat×eI):=[(0,⟨[7,12,13,14],[4],[1,2,3,4,5,6,7,8],5,[(7,4)]⟩)]
def ryS(s:Bool)(A L n i:Int):St:=⟨[(7,.ptr 4 0),(12,.int .i64 L),(13,.int .i64 n),(14,.int .i64 i)],[(4,some (.cells 167 (.bool s::rH A)))],5,[1,2,3,4,5,6,7,8],91⟩
noncomputable abbrev ryE :Env:=fG ryR (fun _=>0) s7 1
noncomputable abbrev ryF :Func:=Tryz.f69
abbrev ryP :List Nat:=[1,1,1,1,1,1,1,1,0,1,0]
theorem aEE(ax ay bx ey x y:Int)(K:KC):cL ryR (fun _=>0) s7 2 69 [.agg [.int .i64 ax,.int .i64 ay],.agg [.int .i64 bx,.int .i64 ey],.agg [.int .i64 x,.int .i64 y]] [] K=
 Br (!!uL ax ay bx ey x y) (K (.int .i64 0) [] []) (Br (decide (IN ax ay bx ey x y>=0)) (K (.int .i64 0) [] []) (Br (decide (gB (nvX (TM ax ay bx ey x y)) 0<0)) (K (.int .i64 0) [] []) (Br (decide (gB (nvX (TM bx ey ax ay x y)) 0<0)) (K (.int .i64 0) [] [])
  ((fun p q=>If (okX p&&okX q) ((fun N=>If (okX N&&decide (nvX N<170141183460469231731687303715884105728)) (∃k,aV ryE (aA ryR 0) ryF ryP 0 0 K k
   (ryS (!decide (qH ax ay bx ey x y<0)&& !(dvS (aQ (qH ax ay bx ey x y))==0)) (aQ (qH ax ay bx ey x y)) (IntKind.i64.wrap (gU (nvX N))) 0 62))) (A5 (nvX p) (nvX q))))
   (w64 (bx - ax)*w64 (bx - ax)) (w64 (ey - ay)*w64 (ey - ay)))))):=by kernel_rfl
theorem aBC(s:Bool)(A L n:Int)(i:Nat)(K:Ex->St->Prop):aF ryE (aA ryR 0) ryF ryP 0 K (ryS s A L n i)=
 (fun m=>If (okX (m*L)&&CT A) (Br (decide (gB (nvX (m*L)) (nvD s A)<0)) (K .normal (ryS s A L m (IntKind.i64.wrap (i - 1)))) (K .normal (ryS s A L n (IntKind.i64.wrap (i - 1))))))
  (IntKind.i64.wrap (n+IntKind.i64.wrap (1*2^min (IntKind.u64.wrap (i:Int)).toNat 64))):=by kernel_rfl
theorem aIM(s:Bool)(A L n:Int)(K:Ex->St->Prop):aF ryE (aA ryR 0) ryF ryP 0 K (ryS s A L n (-1))=K (.exit 0) (ryS s A L n (-1)):=by kernel_rfl
theorem aFv(s:Bool)(A L n i:Int)(K:KC):aB ryE (aA ryR 0) ryF ryP 0 K (.exit 0) (ryS s A L n i)=K (.int .i64 (IntKind.i64.wrap (n+1))) [] []:=by kernel_rfl
theorem TN(x y:Int):decide (gB x y<0)=decide (x<y):=by
 unfold gB
 cases h:decide (x<y)
 ·simp only [ap];cases decide (y<x)<;>rfl
 ·rfl
theorem aHz(A L:Int)(hA:0<=A)(hA':A<1267650600228229401496703205376)(hL:0<L)(hL':L<=1125899906842624)(K:KC):
  ∀(f:Nat) (a:Nat×Int),(((a.1<=63/\0<=a.2)/\a.2+2^a.1<=9223372036854775808)/\K (.int .i64 (IntKind.i64.wrap (sN A L a.1 a.2+1))) [] [])->a.1<f->
   iter (aF ryE (aA ryR 0) ryF ryP 0) (aB ryE (aA ryR 0) ryF ryP 0 K) f (ryS false A L a.2 ((a.1:Int) - 1)):=
 iH (fun a:Nat×Int=>ryS false A L a.2 ((a.1:Int) - 1)) (fun a=>a.1) (fun a=>((a.1<=63/\0<=a.2)/\a.2+2^a.1<=9223372036854775808)/\K (.int .i64 (IntKind.i64.wrap (sN A L a.1 a.2+1))) [] []) (fun a=>by
  obtain ⟨k,n⟩:=a
  rintro ⟨⟨⟨h1,h2⟩,h3⟩,hK⟩ Z hZ
  simp only at h1 h2 h3 hK hZ|-
  cases k with
  |zero=>
   rw [show ((0:Nat):Int) - 1= -1 from rfl,aIM]
   show aB ryE (aA ryR 0) ryF ryP 0 K (.exit 0) (ryS false A L n (-1))
   rw [aFv]
   exact hK
  |succ k=>
   have hp:(2:Int)^(k+1)=2^k*2:=fi 2 k
   have hpos:(0:Int)<2^k:=ic (by decide)
   rw [hp] at h3
   unfold sN at hK
   rw [show ((k+1:Nat):Int) - 1=(k:Int) by omega,aBC]
   have e1:IntKind.u64.wrap (k:Int)=(k:Int):=by rw [dK];omega
   have e2:IntKind.i64.wrap ((k:Int) - 1)=(k:Int) - 1:=by rw [fK];omega
   have e3:IntKind.i64.wrap (1*2^k)=2^k:=by rw [fK,Int.one_mul];omega
   rw [e1,e2,am,Nat.min_eq_left (by omega),e3,fK,show (n+2^k+9223372036854775808)%18446744073709551616 - 9223372036854775808=n+2^k by omega]
   have mb:=A2 (a:=n+2^k) (N:=9223372036854775808) (b:=L) (M:=1125899906842624) (by omega) (by omega) (by omega) hL'
   show If _ _
   rw [oX (by omega) (by omega),K9 hA (by omega),TN,show (bif false then -A else A)=A from rfl]
   refine If.mk (by rw [tH,mM];rfl) (Br.of (fun c=> ?_) fun c=> ?_)
   ·rw [c] at hK
    exact hZ (k,n+2^k) ⟨⟨⟨by show k<=63;omega,by show 0<=n+2^k;omega⟩,by show n+2^k+2^k<=_;omega⟩,hK⟩ (by show k<k+1;omega)
   ·rw [c] at hK
    exact hZ (k,n) ⟨⟨⟨by show k<=63;omega,h2⟩,by show n+2^k<=_;omega⟩,hK⟩ (by show k<k+1;omega))
theorem uK(ax ay bx ey x y:Int):aE Tryz.prog 69 [.agg [.int .i64 ax,.int .i64 ay],.agg [.int .i64 bx,.int .i64 ey],.agg [.int .i64 x,.int .i64 y]] [] (.int .i64 (AX ax ay bx ey x y)) [] []:=
 eF ryR (fun _=>0) s7 2 (fun _ h=>nomatch h) fun _ _ K hK=>by
  have hK:=hK [] fun _ h=>nomatch h
  rw [aEE]
  unfold AX at hK
  refine Br.of (fun c=> ?_) fun c=> ?_
  ·rw [fj] at c;rw [c] at hK;exact hK
  rw [fj] at c;rw [c] at hK
  simp only [ap] at hK
  obtain ⟨⟨h1,h2⟩,⟨h3,h4⟩,⟨h5,h6⟩⟩:=nL c
  have r1:=FO c
  obtain ⟨d1,d2,d3⟩:=X1 c
  have hs:IN ax ay bx ey x y=gB (oF ax ay bx ey x y) 0:=by unfold IN;rw [c,QY c];rfl
  rw [hs,C9,aEx,aEx,vT h1 h2 h3 h4,vT (by omega) (by omega) h5 h6,oX (by omega) (by omega),oX (by omega) (by omega),TN,TN,QY c]
  refine Br.of (fun c1=> ?_) fun c1=>Br.of (fun c2=> ?_) fun c2=>Br.of (fun c3=> ?_) fun c3=> ?_
  ·rw [c1] at hK;exact hK
  ·rw [c1,c2] at hK;exact hK
  ·rw [c1,c2,c3] at hK;exact hK
  ·rw [c1,c2,c3] at hK
   simp only [Bool.or_false,ap] at hK
   have c1':=ae c1
   obtain ⟨l1,l2,l3⟩:=JQ c (by omega)
   rw [mS (by omega) (by omega),mS (by omega) (by omega)]
   have m1:=nC h1.1 h1.2 h1.1 h1.2
   have m2:=nC h2.1 h2.2 h2.1 h2.2
   have hN:A5 (nvX ((bx - ax)*(bx - ax))) (nvX ((ey - ay)*(ey - ay)))=oZ ax ay bx ey bx ey:=by
    rw [oX (by omega) (by omega),oX (by omega) (by omega)]
    unfold A5 oZ
    rw [show dG ((bx - ax)*(bx - ax)+(ey - ay)*(ey - ay))=true from (jU _).2 ⟨by omega,by omega⟩];rfl
   refine If.mk (by rw [tH,tH];rfl) ?_
   rw [hN]
   refine If.mk (by rw [tH,oX (by omega) (by omega),ao (by omega)];rfl) ?_
   rw [oX (by omega) (by omega),fK]
   generalize hL:gU (oZ ax ay bx ey bx ey)=L at*
   rw [show (L+9223372036854775808)%18446744073709551616 - 9223372036854775808=L by omega]
   have ha:aQ (oF ax ay bx ey x y)= -oF ax ay bx ey x y:=by unfold aQ;rw [ao (by omega)];rfl
   rw [ha,ao (show oF ax ay bx ey x y<0 by omega)]
   generalize hA: -oF ax ay bx ey x y=A at*
   have mL:=A2 (a:=L) (N:=1125899906842624) (b:=1) (M:=1) (by omega) (by omega) (by decide) (by decide)
   obtain ⟨b1,b2⟩:=GO (A:=A) (L:=L) 63 0 (by rw [Int.zero_mul];omega) (by rw [Int.zero_add,show (2:Int)^63=9223372036854775808 from rfl];omega)
   have hc:uJ A L=sN A L 63 0+1:=pJ l1 (by rw [show sN A L 63 0+1 - 1=sN A L 63 0 by omega];exact b1) b2
   have hc0:0<=uJ A L/\uJ A L<=1125899906842624:=by
    unfold uJ
    refine ⟨dx (by omega) (by omega), ?_⟩
    have:(A+L - 1)/L<1125899906842625:=by rw [ec l1];omega
    omega
   rw [hc] at hK hc0
   refine ⟨64,aHz A L (by omega) (by omega) l1 l2 K 64 (63,0) ⟨⟨⟨by decide,by decide⟩,by decide⟩, ?_⟩ (by decide)⟩
   rw [fK,show (sN A L 63 0+1+9223372036854775808)%18446744073709551616 - 9223372036854775808=sN A L 63 0+1 by omega]
   exact hK
noncomputable def s8 :bT Tryz.prog:=(s7).add 69 (one JA) (aT fun xs σ v σ' d h=>by
  unfold JA at h;split at h<;>cases h;first|exact uK|exact uK _|exact uK _ _|exact uK _ _ _|exact uK _ _ _ _|exact uK _ _ _ _ _|exact uK _ _ _ _ _ _|exact uK _ _ _ _ _ _ _|exact uK _ _ _ _ _ _ _ _|exact uK _ _ _ _ _ _ _ _ _|exact uK _ _ _ _ _ _ _ _ _ _|exact uK _ _ _ _ _ _ _ _ _ _ _)
def rzR :List (Nat×eI):=[(0,⟨[1,2,3,6,7],[0],[1,2,3,4,5,6],1,[]⟩)]
def rzS(t:Trk)(L:List Bar)(c a i:Int):St:=⟨[(1,.ptr 0 0),(2,.int .i64 c),(3,.int .i64 a),(6,.ro L.length 5 (tY L)),(7,.int .i64 i)],[(0,some (.cells 34 (aI t)))],1,[1,2,3,4,5,6],124⟩
noncomputable abbrev rzE :Env:=fG rzR (fun _=>0) s8 1
noncomputable abbrev rzF :Func:=Tryz.f22
abbrev rzP :List Nat:=[1,1,1,1,1,1,1,1,1,1,0,1,0]
theorem aD5(t:Trk)(K:KC):cL rzR (fun _=>0) s8 2 22 [.agg (aI t)] [] K=
 (Br (decide (t.rate<60)) (K (SV.tup [SV.int .i64 40,SV.int .i64 0]) [] []) (Br (decide (t.rate>1024)) (K (SV.tup [SV.int .i64 40,SV.int .i64 0]) [] []) ((iX (aP t.h) (aP t.g) (fH t) (bA t.lx t.ly) (bN t) (fB t))/\(Br (iQ t==0) ((pts (bA t.lx t.ly))/\(Br ((jY t.nl (fun (i:Nat)=>px (bA t.lx t.ly i)) fun (i:Nat)=>py (bA t.lx t.ly i))==0) ((pts (bA t.lx t.ly))/\(Br (dO (fun (i:Nat)=>jG (px (bA t.lx t.ly i)) (py (bA t.lx t.ly i))) t.nl) (K (SV.tup [SV.int .i64 40,SV.int .i64 0]) [] []) (Br ((jY t.nl (fun (i:Nat)=>px (bA t.lx t.ly i)) fun (i:Nat)=>py (bA t.lx t.ly i)) !=0) (K (SV.tup [SV.int .i64 (jY t.nl (fun (i:Nat)=>px (bA t.lx t.ly i)) fun (i:Nat)=>py (bA t.lx t.ly i)),SV.int .i64 0]) [] []) ((iX (aP t.h) (aP t.g) (fH t) (bA t.lx t.ly) (bN t) (fB t))/\((jW t.nr (bN t))/\(Br ((mY t).fst !=0) (K (SV.tup [SV.int .i64 (mY t).fst,SV.int .i64 (mY t).snd]) [] []) (Br (decide (t.sx<t.cx)) (K (SV.tup [SV.int .i64 40,SV.int .i64 0]) [] []) (Br (decide (t.sx>IntKind.i64.wrap (t.cx+IntKind.i64.wrap (t.cols*t.cell)))) (K (SV.tup [SV.int .i64 40,SV.int .i64 0]) [] []) (Br (decide (t.sy<t.cy)) (K (SV.tup [SV.int .i64 40,SV.int .i64 0]) [] []) (Br (decide (t.sy>IntKind.i64.wrap (t.cy+IntKind.i64.wrap (t.rows*t.cell)))) (K (SV.tup [SV.int .i64 40,SV.int .i64 0]) [] []) ((iX (aP t.h) (aP t.g) (fH t) (bA t.lx t.ly) (bN t) (fB t))/\((jW t.nr (bN t))/\(∃q_,aV rzE (aA rzR 0) rzF rzP 0 0 K q_ {tmps:=[(1,SV.ptr 0 0),(2,SV.int .i64 0),(3,SV.int .i64 0),(6,SV.ro (mR t).length 5 (tY (mR t))),(7,SV.int .i64 0)],store:=[(0,some (SB.cells 34 (aI t)))],nxt:=1,dirty:=[1,2,3,4,5,6],nt:=124}))))))))))))) (Br ((jY t.nl (fun (i:Nat)=>px (bA t.lx t.ly i)) fun (i:Nat)=>py (bA t.lx t.ly i)) !=0) (K (SV.tup [SV.int .i64 (jY t.nl (fun (i:Nat)=>px (bA t.lx t.ly i)) fun (i:Nat)=>py (bA t.lx t.ly i)),SV.int .i64 0]) [] []) ((iX (aP t.h) (aP t.g) (fH t) (bA t.lx t.ly) (bN t) (fB t))/\((jW t.nr (bN t))/\(Br ((mY t).fst !=0) (K (SV.tup [SV.int .i64 (mY t).fst,SV.int .i64 (mY t).snd]) [] []) (Br (decide (t.sx<t.cx)) (K (SV.tup [SV.int .i64 40,SV.int .i64 0]) [] []) (Br (decide (t.sx>IntKind.i64.wrap (t.cx+IntKind.i64.wrap (t.cols*t.cell)))) (K (SV.tup [SV.int .i64 40,SV.int .i64 0]) [] []) (Br (decide (t.sy<t.cy)) (K (SV.tup [SV.int .i64 40,SV.int .i64 0]) [] []) (Br (decide (t.sy>IntKind.i64.wrap (t.cy+IntKind.i64.wrap (t.rows*t.cell)))) (K (SV.tup [SV.int .i64 40,SV.int .i64 0]) [] []) ((iX (aP t.h) (aP t.g) (fH t) (bA t.lx t.ly) (bN t) (fB t))/\((jW t.nr (bN t))/\(∃q_,aV rzE (aA rzR 0) rzF rzP 0 0 K q_ {tmps:=[(1,SV.ptr 0 0),(2,SV.int .i64 0),(3,SV.int .i64 0),(6,SV.ro (mR t).length 5 (tY (mR t))),(7,SV.int .i64 0)],store:=[(0,some (SB.cells 34 (aI t)))],nxt:=1,dirty:=[1,2,3,4,5,6],nt:=124}))))))))))))) (Br (iQ t==0) ((pts (bA t.lx t.ly))/\(Br (dO (fun (i:Nat)=>jG (px (bA t.lx t.ly i)) (py (bA t.lx t.ly i))) t.nl) (K (SV.tup [SV.int .i64 40,SV.int .i64 0]) [] []) (Br (iQ t !=0) (K (SV.tup [SV.int .i64 (iQ t),SV.int .i64 0]) [] []) ((iX (aP t.h) (aP t.g) (fH t) (bA t.lx t.ly) (bN t) (fB t))/\((jW t.nr (bN t))/\(Br ((mY t).fst !=0) (K (SV.tup [SV.int .i64 (mY t).fst,SV.int .i64 (mY t).snd]) [] []) (Br (decide (t.sx<t.cx)) (K (SV.tup [SV.int .i64 40,SV.int .i64 0]) [] []) (Br (decide (t.sx>IntKind.i64.wrap (t.cx+IntKind.i64.wrap (t.cols*t.cell)))) (K (SV.tup [SV.int .i64 40,SV.int .i64 0]) [] []) (Br (decide (t.sy<t.cy)) (K (SV.tup [SV.int .i64 40,SV.int .i64 0]) [] []) (Br (decide (t.sy>IntKind.i64.wrap (t.cy+IntKind.i64.wrap (t.rows*t.cell)))) (K (SV.tup [SV.int .i64 40,SV.int .i64 0]) [] []) ((iX (aP t.h) (aP t.g) (fH t) (bA t.lx t.ly) (bN t) (fB t))/\((jW t.nr (bN t))/\(∃q_,aV rzE (aA rzR 0) rzF rzP 0 0 K q_ {tmps:=[(1,SV.ptr 0 0),(2,SV.int .i64 0),(3,SV.int .i64 0),(6,SV.ro (mR t).length 5 (tY (mR t))),(7,SV.int .i64 0)],store:=[(0,some (SB.cells 34 (aI t)))],nxt:=1,dirty:=[1,2,3,4,5,6],nt:=124}))))))))))))) (Br (iQ t !=0) (K (SV.tup [SV.int .i64 (iQ t),SV.int .i64 0]) [] []) ((iX (aP t.h) (aP t.g) (fH t) (bA t.lx t.ly) (bN t) (fB t))/\((jW t.nr (bN t))/\(Br ((mY t).fst !=0) (K (SV.tup [SV.int .i64 (mY t).fst,SV.int .i64 (mY t).snd]) [] []) (Br (decide (t.sx<t.cx)) (K (SV.tup [SV.int .i64 40,SV.int .i64 0]) [] []) (Br (decide (t.sx>IntKind.i64.wrap (t.cx+IntKind.i64.wrap (t.cols*t.cell)))) (K (SV.tup [SV.int .i64 40,SV.int .i64 0]) [] []) (Br (decide (t.sy<t.cy)) (K (SV.tup [SV.int .i64 40,SV.int .i64 0]) [] []) (Br (decide (t.sy>IntKind.i64.wrap (t.cy+IntKind.i64.wrap (t.rows*t.cell)))) (K (SV.tup [SV.int .i64 40,SV.int .i64 0]) [] []) ((iX (aP t.h) (aP t.g) (fH t) (bA t.lx t.ly) (bN t) (fB t))/\((jW t.nr (bN t))/\(∃q_,aV rzE (aA rzR 0) rzF rzP 0 0 K q_ {tmps:=[(1,SV.ptr 0 0),(2,SV.int .i64 0),(3,SV.int .i64 0),(6,SV.ro (mR t).length 5 (tY (mR t))),(7,SV.int .i64 0)],store:=[(0,some (SB.cells 34 (aI t)))],nxt:=1,dirty:=[1,2,3,4,5,6],nt:=124})))))))))))))))):=by kernel_rfl
theorem P1(t:Trk)(L:List Bar)(i:Nat)(K:Ex->St->Prop):aF rzE (aA rzR 0) rzF rzP 0 K (rzS t L 0 0 i)=
 (Br (decide ((↑i:Int)<(↑L.length:Int))) (Br (decide (0<=(↑i:Int))&&decide ((↑i:Int)<(↑L.length:Int))) (Br (decide (0<=(↑i:Int))&&decide ((↑i:Int)<(↑L.length:Int))) (Br (decide (AX (L.getD (↑i:Int).toNat oW).fst (L.getD (↑i:Int).toNat oW).snd.fst (L.getD (↑i:Int).toNat oW).snd.snd.fst (L.getD (↑i:Int).toNat oW).snd.snd.snd.fst t.sx t.sy>0)) (Br (decide (AX (L.getD (↑i:Int).toNat oW).fst (L.getD (↑i:Int).toNat oW).snd.fst (L.getD (↑i:Int).toNat oW).snd.snd.fst (L.getD (↑i:Int).toNat oW).snd.snd.snd.fst t.sx t.sy<=17179869184)) (K Ex.ret {tmps:=[(1,SV.ptr 0 0),(2,SV.int .i64 43),(3,SV.int .i64 0),(6,SV.ro L.length 5 (tY L)),(7,SV.int .i64 (↑i:Int))],store:=[(0,some (SB.cells 34 (aI t)))],nxt:=1,dirty:=[1,2,3,4,5,6],nt:=124}) (K Ex.normal {tmps:=[(1,SV.ptr 0 0),(2,SV.int .i64 0),(3,SV.int .i64 0),(6,SV.ro L.length 5 (tY L)),(7,SV.int .i64 (IntKind.i64.wrap ((↑i:Int)+1)))],store:=[(0,some (SB.cells 34 (aI t)))],nxt:=1,dirty:=[1,2,3,4,5,6],nt:=124})) (K Ex.normal {tmps:=[(1,SV.ptr 0 0),(2,SV.int .i64 0),(3,SV.int .i64 0),(6,SV.ro L.length 5 (tY L)),(7,SV.int .i64 (IntKind.i64.wrap ((↑i:Int)+1)))],store:=[(0,some (SB.cells 34 (aI t)))],nxt:=1,dirty:=[1,2,3,4,5,6],nt:=124})) (False)) (False)) (K (Ex.exit 0) {tmps:=[(1,SV.ptr 0 0),(2,SV.int .i64 0),(3,SV.int .i64 0),(6,SV.ro L.length 5 (tY L)),(7,SV.int .i64 (↑i:Int))],store:=[(0,some (SB.cells 34 (aI t)))],nxt:=1,dirty:=[1,2,3,4,5,6],nt:=124})):=by kernel_rfl
theorem aJ7(t:Trk)(L:List Bar)(c a i:Int)(K:KC):aB rzE (aA rzR 0) rzF rzP 0 K .ret (rzS t L c a i)=
 (K (SV.tup [SV.int .i64 c,SV.int .i64 a]) [] []):=by kernel_rfl
theorem aD1(t:Trk)(L:List Bar)(i:Int)(K:KC):aB rzE (aA rzR 0) rzF rzP 0 K (.exit 0) (rzS t L 0 0 i)=
 (Br (decide (t.laps<1)) (K (SV.tup [SV.int .i64 40,SV.int .i64 0]) [] []) (Br (decide (t.laps>100)) (K (SV.tup [SV.int .i64 40,SV.int .i64 0]) [] []) (K (SV.tup [SV.int .i64 0,SV.int .i64 0]) [] []))):=by kernel_rfl
theorem WL(t:Trk):IC t=(!decide (t.rate<60)&& !decide (t.rate>1024)):=by unfold IC;grind
theorem aG8(t:Trk):CA t=(!decide (t.laps<1)&& !decide (t.laps>100)):=by unfold CA;grind
theorem aK7(t:Trk)(hs:g8 t)(K:KC)(hK:aAi (cG t) K):cL rzR (fun _=>0) s8 2 22 [.agg (aI t)] [] K:=by
 rw [aD5]
 have e1:jY t.nl (fun i=>px (bA t.lx t.ly i)) (fun i=>py (bA t.lx t.ly i))=jY t.nl t.lx t.ly:=rfl
 have e2:dO (fun i=>jG (px (bA t.lx t.ly i)) (py (bA t.lx t.ly i))) t.nl=zP t:=rfl
 simp only [e1,e2]
 have hR:cG t=orV (fT t,0) (orV (mY t) (nD t)):=by
  unfold cG mY orV
  cases (fT t !=0)<;>cases h:(nH t).1 !=0<;>simp only [ar,ap,h]
 rw [hR] at hK
 have hbad:fT t≠0->K (.tup [.int .i64 (fT t),.int .i64 0]) [] []:=fun h=>by
  unfold orV at hK
  simp only [ei.2 h,ar] at hK
  exact hK
 unfold fT at hbad
 rw [WL] at hbad
 refine Br.of (fun c=> ?_) fun c=>Br.of (fun c2=> ?_) fun c2=>⟨fZ t, ?_⟩
 ·simp only [c,eb,Bool.false_and,fx,ar] at hbad;exact hbad (by decide)
 ·simp only [c2,eb,em,fx,ar] at hbad;exact hbad (by decide)
 simp only [c,c2,fx,Bool.and_self,eb,ap] at hbad
 cases hf:iQ t==0
 ·simp only [hf,fL hf,fx,aGT,aEF]
  simp only [fL hf,fx,ar] at hbad
  exact hbad fun h=>by rw [h] at hf;cases hf
 simp only [hf,fL hf,eb,aGT,aEF]
 simp only [fL hf,eb,ap] at hbad
 refine ⟨fun _=>rfl, ?_⟩
 cases hl:jY t.nl t.lx t.ly==0
 ·simp only [fL hl,fx,aGT,aEF]
  simp only [fL hl,fx,ar] at hbad
  exact hbad fun h=>by rw [h] at hl;cases hl
 simp only [fL hl,eb,aGT,aEF]
 simp only [fL hl,eb,ap] at hbad
 refine ⟨fun _=>rfl, ?_⟩
 cases ho:zP t
 case true=>rw [ho] at hbad;exact hbad (by decide)
 simp only [aEF]
 have hg:fT t=0:=by unfold fT;rw [WL,c,c2,fL hf,fL hl,ho];rfl
 clear hbad
 unfold orV at hK
 simp only [hg,bne_self_eq_false,ap] at hK
 refine ⟨fZ t,hs,Br.of (fun c3=> ?_) fun c3=> ?_⟩
 ·simp only [c3,ar] at hK;exact hK
 simp only [c3,ap] at hK
 have hout:SR t=true->K (.tup [.int .i64 40,.int .i64 0]) [] []:=fun h=>by unfold nD at hK;rw [h] at hK;exact hK
 have hin:SR t=false->aAi (bif nS t then (43,0) else bif !CA t then (40,0) else (0,0)) K:=fun h=>by unfold nD at hK;rw [h] at hK;exact hK
 unfold SR at hout hin
 refine Br.of (fun d1=>hout (by rw [d1];rfl)) fun d1=>Br.of (fun d3=>hout (by rw [d3,gw,co,co])) fun d3=>Br.of (fun d2=>hout (by rw [d2,gw,co])) fun d2=>Br.of (fun d4=>hout (by rw [d4,co,co,co])) fun d4=>⟨fZ t,hs, ?_⟩
 have hK:=hin (by rw [d1,d2,d3,d4];rfl)
 have hlen:(mR t).length<=2000:=by
  have:=nW hs.2 t.nr (av _)
  have h2:t.nr*100<=20*100:=bj _ hs.1
  unfold mR
  omega
 generalize hLL:mR t=L at hlen|-
 have hna:nS t=dO (fun i=>nO t (L.getD i oW)) L.length:=by unfold nS;rw [hLL]
 rw [hna] at hK
 refine iR (fun i:Nat=>rzS t L 0 0 i) L.length (fun i=>nO t (L.getD i oW)) (fun i=>aB rzE (aA rzR 0) rzF rzP 0 K .ret (rzS t L 43 0 i)) (aB rzE (aA rzR 0) rzF rzP 0 K (.exit 0) (rzS t L 0 0 L.length)) (fun i hi X h1 h2=> ?_) (fun X h=> ?_) (fun i hi h _=> ?_) (fun h=> ?_)
 ·rw [P1,aK hi (by omega)]
  simp only [am]
  unfold nO at h1 h2
  exact Br.of (fun _=>Br.of (fun _=>Br.of (fun _=>Br.of (fun c=>Br.of (fun d=>h1 (by rw [show decide (0<AX _ _ _ _ _ _)=true from c,d];rfl)) fun d=>h2 (by rw [d,em])) fun c=>h2 (by rw [show decide (0<AX _ _ _ _ _ _)=false from c];rfl)) fun c=>eA hi c) fun c=>eA hi c) fun c=>iI hi c
 ·rw [P1]
  exact Br.of (fun c=>g7 c) fun _=>h
 ·show aB _ _ _ _ _ _ _ _
  rw [aJ7]
  rw [show dO (fun i=>nO t (L.getD i oW)) L.length=true from iS.2 ⟨i,hi,h⟩] at hK
  exact hK
 ·rw [aD1]
  rw [show dO (fun i=>nO t (L.getD i oW)) L.length=false from e9.2 h,aG8] at hK
  refine Br.of (fun c=> ?_) fun c=>Br.of (fun c2=> ?_) fun c2=> ?_
  ·rw [c] at hK;exact hK
  ·rw [c,c2] at hK;exact hK
  ·rw [c,c2] at hK;exact hK
theorem S2(xs:List SV)(σ:List (Option SB)):Sat Tryz.prog 22 xs σ (Y8 cG xs σ):=
 QF (fun t hs _ _ K hK=>bS (env:=tab.env s8 (fun _=>0) (fun _=>false)) ⟨tab.htt,s8.ok⟩ tab.mixed (fun n=>aY n rzR) tab.hft 2 _ _ _ K (aK7 t hs K hK)) xs σ
def DK(t:Trk):Bool:=decide ((t.nh:Int)<=1200)&&(decide ((t.ng:Int)<=1000)&&decide ((t.nk:Int)<=20))
theorem aDY(t:Trk)(K:KC):run q5 2 15 [.agg (aI t)] [] K=
 (Br (decide ((↑t.nh:Int)<=1200)) (Br (decide ((↑t.ng:Int)<=1000)) (K (SV.bool (decide ((↑t.nk:Int)<=20))) [] []) (K (SV.bool false) [] [])) (K (SV.bool false) [] [])):=by kernel_rfl
theorem aC1(t:Trk):aE Tryz.prog 15 [.agg (aI t)] [] (.bool (DK t)) [] []:=
 aS q5 2 fun _ _ K hK=>by
  rw [aDY];simp only [qP];refine NY hK ?_;unfold DK
  cases decide ((t.nh:Int)<=1200)<;>cases decide ((t.ng:Int)<=1000)<;>rfl
def U7 :List SV->List (Option SB)->KC->Prop
 | [.agg [.int .i64 a0,.int .i64 a1,.int .i64 a2,.int .i64 a3,.int .i64 a4,.int .i64 a5,.ro nh 1 h,.ro ng 1 g,.ro nk 3 kg,.ro nl 2 l,.ro nr 1 rl,.ro nt 5 gt,.int .i64 sx,.int .i64 sy,.int .u32 hd,.int .i64 lp]],[],K=>iX h g kg l rl gt/\K (.bool (DK (mZ a0 a1 a2 a3 a4 a5 nh h ng g nk kg nl l nr rl nt gt sx sy hd lp))) [] []
 |_,_,_=>False
theorem ZR(xs:List SV)(σ:List (Option SB)):Sat Tryz.prog 15 xs σ (U7 xs σ):=by
 intro K hK
 unfold U7 at hK
 split at hK
 ·refine ⟨_,_,_,hK.2, ?_⟩
  rw [i5 hK.1];exact aC1 _
 ·exact hK.elim
noncomputable def u0 :bT Tryz.prog:=(q5).add 15 U7 ZR
def fwR :List (Nat×eI):=[(0,⟨[1,2,3],[0],[1,2,3],1,[]⟩)]
def fwS(t:Trk)(i:Int):St:=⟨[(1,.ptr 0 0),(2,.bool false),(3,.int .i64 i)],[(0,some (.cells 34 (aI t)))],1,[1,2,3],39⟩
noncomputable abbrev fwE :Env:=fG fwR (fun _=>0) u0 1
noncomputable abbrev fwF :Func:=Tryz.f7
theorem aD0(t:Trk)(K:KC):cL fwR (fun _=>0) u0 2 7 [.agg (aI t)] [] K=
 ((iX (aP t.h) (aP t.g) (fH t) (bA t.lx t.ly) (bN t) (fB t))/\(Br (!DK t) (K (SV.bool false) [] []) (Br (decide ((↑t.nl:Int)>100)) (K (SV.bool false) [] []) (Br (decide ((↑t.nr:Int)>20)) (K (SV.bool false) [] []) (Br (decide ((↑t.nt:Int)>20)) (K (SV.bool false) [] []) (∃q_,aV fwE (aA fwR 0) fwF [1,1,0,1,0] 0 0 K q_ {tmps:=[(1,SV.ptr 0 0),(2,SV.bool false),(3,SV.int .i64 0)],store:=[(0,some (SB.cells 34 (aI t)))],nxt:=1,dirty:=[1,2,3],nt:=39})))))):=by kernel_rfl
theorem QN(t:Trk)(i:Nat)(K:Ex->St->Prop):aF fwE (aA fwR 0) fwF [1,1,0,1,0] 0 K (fwS t i)=
 (Br (decide ((↑i:Int)<(↑t.nr:Int))) (Br (decide (0<=(↑i:Int))&&decide ((↑i:Int)<(↑t.nr:Int))) (Br (decide ((↑(t.rn (↑i:Int).toNat):Int)>100)) (K Ex.ret {tmps:=[(1,SV.ptr 0 0),(2,SV.bool false),(3,SV.int .i64 (↑i:Int))],store:=[(0,some (SB.cells 34 (aI t)))],nxt:=1,dirty:=[1,2,3],nt:=39}) (K Ex.normal {tmps:=[(1,SV.ptr 0 0),(2,SV.bool false),(3,SV.int .i64 (IntKind.i64.wrap ((↑i:Int)+1)))],store:=[(0,some (SB.cells 34 (aI t)))],nxt:=1,dirty:=[1,2,3],nt:=39})) (False)) (K (Ex.exit 0) {tmps:=[(1,SV.ptr 0 0),(2,SV.bool false),(3,SV.int .i64 (↑i:Int))],store:=[(0,some (SB.cells 34 (aI t)))],nxt:=1,dirty:=[1,2,3],nt:=39})):=by kernel_rfl
theorem aKg(t:Trk)(i:Int)(K:KC):aB fwE (aA fwR 0) fwF [1,1,0,1,0] 0 K .ret (fwS t i)=
 (K (SV.bool false) [] []):=by kernel_rfl
theorem aEu(t:Trk)(i:Int)(K:KC):aB fwE (aA fwR 0) fwF [1,1,0,1,0] 0 K (.exit 0) (fwS t i)=
 (K (SV.bool true) [] []):=by kernel_rfl
def ZX(t:Trk):Bool:=DK t&&(!decide ((t.nl:Int)>100)&&(!decide ((t.nr:Int)>20)&&(!decide ((t.nt:Int)>20)&& !dO (fun i=>decide ((t.rn i:Int)>100)) t.nr)))
theorem aJA(t:Trk)(hn:t.nr<9223372036854775808)(K:KC)(hK:K (.bool (ZX t)) [] []):cL fwR (fun _=>0) u0 2 7 [.agg (aI t)] [] K:=by
 rw [aD0]
 unfold ZX at hK
 refine ⟨fZ t,Br.of (fun c=> ?_) fun c=> ?_⟩
 ·rw [dg] at c;rw [c] at hK;exact hK
 rw [dr] at c;rw [c] at hK
 refine Br.of (fun c2=> ?_) fun c2=>Br.of (fun c3=> ?_) fun c3=>Br.of (fun c4=> ?_) fun c4=> ?_
 ·rw [c2] at hK;exact hK
 ·rw [c2,c3] at hK;exact hK
 ·rw [c2,c3,c4] at hK;exact hK
 rw [c2,c3,c4] at hK
 simp only [fx,ch] at hK
 refine iR (fun i:Nat=>fwS t i) t.nr (fun i=>decide ((t.rn i:Int)>100)) (fun i=>aB fwE (aA fwR 0) fwF [1,1,0,1,0] 0 K .ret (fwS t i)) (aB fwE (aA fwR 0) fwF [1,1,0,1,0] 0 K (.exit 0) (fwS t t.nr)) (fun i hi X h1 h2=> ?_) (fun X h=> ?_) (fun i hi h _=> ?_) (fun h=> ?_)
 ·rw [QN,aK hi hn]
  simp only [am]
  exact Br.of (fun _=>Br.of (fun _=>Br.of (fun c=>h1 c) fun c=>h2 c) fun c=>eA hi c) fun c=>iI hi c
 ·rw [QN]
  exact Br.of (fun c=>g7 c) fun _=>h
 ·show aB _ _ _ _ _ _ _ _
  rw [aKg]
  rw [show dO (fun i=>decide ((t.rn i:Int)>100)) t.nr=true from iS.2 ⟨i,hi,h⟩] at hK
  exact hK
 ·rw [aEu]
  rw [show dO (fun i=>decide ((t.rn i:Int)>100)) t.nr=false from e9.2 h] at hK
  exact hK
theorem YU{t:Trk}(h:ZX t=true):g8 t:=by
 unfold ZX at h
 simp only [af,dg,aw] at h
 obtain ⟨_,_,h1,_,h2⟩:=h
 refine ⟨by omega,fun i hi=> ?_⟩
 have:=ae (e9.1 h2 i hi)
 omega
def TO :List SV->List (Option SB)->KC->Prop
 | [.agg [.int .i64 a0,.int .i64 a1,.int .i64 a2,.int .i64 a3,.int .i64 a4,.int .i64 a5,.ro nh 1 h,.ro ng 1 g,.ro nk 3 kg,.ro nl 2 l,.ro nr 1 rl,.ro nt 5 gt,.int .i64 sx,.int .i64 sy,.int .u32 hd,.int .i64 lp]],[],K=>iX h g kg l rl gt/\K (.bool (ZX (mZ a0 a1 a2 a3 a4 a5 nh h ng g nk kg nl l nr rl nt gt sx sy hd lp))) [] []
 |_,_,_=>False
theorem aFY(xs:List SV)(σ:List (Option SB)):Sat Tryz.prog 7 xs σ (TO xs σ):=by
 refine pM (fun K hK=> ?_) fun hx _ K hK=> ?_<;>unfold TO at hK<;>split at hK
 ·exact ⟨_,_,_,hK.2⟩
 ·exact hK.elim
 ·obtain ⟨⟨_,_,_,_,_,_,_,_,_,_,hr,_⟩,_⟩:=hx
  rw [i5 hK.1]
  exact bS (env:=tab.env u0 (fun _=>0) (fun _=>false)) ⟨tab.htt,u0.ok⟩ tab.mixed (fun n=>aY n fwR) tab.hft 2 _ _ _ K (aJA _ hr.1 K hK.2)
 ·exact hK.elim
def aMK(V:Val):Trk where
 rate:=(V.sub 0).int []
 cell:=(V.sub 1).int []
 cols:=(V.sub 2).int []
 rows:=(V.sub 3).int []
 cx:=((V.sub 4).sub 0).int []
 cy:=((V.sub 4).sub 1).int []
 nh:=(V.sub 5).len []
 h:=fun i=>((V.sub 5).sub i).int []
 ng:=(V.sub 6).len []
 g:=fun i=>((V.sub 6).sub i).int []
 nk:=(V.sub 7).len []
 kg:=fun i=>(((V.sub 7).sub i).sub 0).int []
 kd:=fun i=>(((V.sub 7).sub i).sub 1).int []
 ko:=fun i=>(((V.sub 7).sub i).sub 2).bool []
 nl:=(V.sub 8).len []
 lx:=fun i=>(((V.sub 8).sub i).sub 0).int []
 ly:=fun i=>(((V.sub 8).sub i).sub 1).int []
 nr:=(V.sub 9).len []
 rn:=fun i=>((V.sub 9).sub i).len []
 rx:=fun i k=>((((V.sub 9).sub i).sub k).sub 0).int []
 ry:=fun i k=>((((V.sub 9).sub i).sub k).sub 1).int []
 nt:=(V.sub 10).len []
 ax:=fun i=>((((V.sub 10).sub i).sub 0).sub 0).int []
 ay:=fun i=>((((V.sub 10).sub i).sub 0).sub 1).int []
 bx:=fun i=>((((V.sub 10).sub i).sub 1).sub 0).int []
 sb:=fun i=>((((V.sub 10).sub i).sub 1).sub 1).int []
 sp:=fun i=>(((V.sub 10).sub i).sub 2).bool []
 sx:=((V.sub 11).sub 0).int []
 sy:=((V.sub 11).sub 1).int []
 head:=(V.sub 12).int []
 laps:=(V.sub 13).int []
end Go.Proofs.YtghnfjfkjhbgdaaGreatDoor
namespace Go.Se
structure Rs where
 pos:Int
 last:Int
 err:Int
 place:Int
def aL7 :List Int->Int
 | []=>0
 |b::r=>b+256*aL7 r
def aL4(B:List Int)(n:Nat)(s:Rs):Option (List Int)×Rs:=
 bif s.err !=0 then (none,s) else bif decide ((n:Int)>(B.length:Int) - s.pos) then (none,⟨s.pos,s.last,20,B.length⟩) else (some ((B.drop s.pos.toNat).take n),⟨s.pos+n,s.pos,s.err,s.place⟩)
def K2(B:List Int)(s:Rs):Int×Rs:=match aL4 B 8 s with
 |(some w,s)=>(IntKind.i64.wrap (aL7 w),s)
 |(none,s)=>(0,s)
def aLG(B:List Int)(s:Rs):Prop:=0<=s.pos/\s.pos<=(B.length:Int)
structure aMZ {α:Type} (rd:List Int->Rs->α×Rs):Prop where
 ok: ∀B s,aLG B s->aLG B (rd B s).2
 stuck: ∀B s,s.err≠0->(rd B s).2=s
section
variable {lo hi:Int} {m B w:List Int} {s s':Rs}
end
end Go.Se
namespace Go.Se
variable {P:Program}
end Go.Se
namespace Go.Se
theorem aCG{b:Bool}(h:b=true):(!b)=false:=by rw [h];rfl
def yH :List SV->List (Option SB)->KC->Prop
 | [.agg [.int .i64 a0,.int .i64 a1,.int .i64 a2,.int .i64 a3,.int .i64 a4,.int .i64 a5,.ro anh 1 ah,.ro ang 1 ag,.ro ank 3 akg,.ro anl 2 al,.ro anr 1 arl,.ro ant 5 agt,.int .i64 asx,.int .i64 asy,.int .u32 ahd,.int .i64 alp],.agg [.int .i64 b0,.int .i64 b1,.int .i64 b2,.int .i64 b3,.int .i64 b4,.int .i64 b5,.ro bnh 1 bh,.ro bng 1 bg,.ro bnk 3 bkg,.ro bnl 2 bl,.ro bnr 1 brl,.ro bnt 5 bgt,.int .i64 bsx,.int .i64 bsy,.int .u32 bhd,.int .i64 blp]],[],K=>iX ah ag akg al arl agt/\iX bh bg bkg bl brl bgt/\xF (mZ a0 a1 a2 a3 a4 a5 anh ah ang ag ank akg anl al anr arl ant agt asx asy ahd alp) (mZ b0 b1 b2 b3 b4 b5 bnh bh bng bg bnk bkg bnl bl bnr brl bnt bgt bsx bsy bhd blp)/\K (.bool true) [] []
 |_,_,_=>False
theorem GV{P:Program}{k:FuncId}(h: ∀t u:Trk,xF t u->aE P k [.agg (aI t),.agg (aI u)] [] (.bool true) [] [])(xs:List SV)(σ:List (Option SB)):Sat P k xs σ (yH xs σ):=by
 intro K hK
 unfold yH at hK
 split at hK
 ·obtain ⟨h1,h2,h3,hK⟩:=hK
  refine ⟨_,_,_,hK, ?_⟩
  rw [i5 h1,i5 h2]
  exact h _ _ h3
 ·exact hK.elim
theorem FX{t:Trk}(h:okL (aI t)):t.nh<9223372036854775808/\t.ng<9223372036854775808/\t.nk<9223372036854775808/\t.nl<9223372036854775808/\t.nr<9223372036854775808/\t.nt<9223372036854775808:=by
 obtain ⟨_,_,_,_,_,_,h1,h2,h3,h4,h5,h6,_⟩:=h
 exact ⟨h1.1,h2.1,h3.1,h4.1,h5.1,h6.1⟩
end Go.Se
namespace Go.Proofs.YtghnfjfkjhbgdaaGreatDoor
open Go.Se
set_option maxRecDepth 100000
def svR :List (Nat×eI):=[(0,⟨[0,1,4,5],[],[],0,[]⟩)]
def svS(n m:Nat)(x y x' y':Nat->Int)(i:Int):St:=⟨[(0,.ro n 2 (bA x y)),(1,.ro m 2 (bA x' y')),(4,.bool false),(5,.int .i64 i)],[],0,[],26⟩
noncomputable abbrev svE :Env:=fG svR (fun _=>0) o7 1
noncomputable abbrev svF :Func:=Tryz.f54
abbrev svP :List Nat:=[1,1,0,1,0]
theorem aCk(n m:Nat)(x y x' y':Nat->Int)(K:KC):cL svR (fun _=>0) o7 2 54 [.ro n 2 (bA x y),.ro m 2 (bA x' y')] [] K=
 (Br ((↑n:Int) !=(↑m:Int)) (K (SV.bool false) [] []) (∃q_,aV svE (aA svR 0) svF svP 0 0 K q_ {tmps:=[(0,SV.ro n 2 (bA x y)),(1,SV.ro m 2 (bA x' y')),(4,SV.bool false),(5,SV.int .i64 0)],store:=[],nxt:=0,dirty:=[],nt:=26})):=by kernel_rfl
theorem OY(n m:Nat)(x y x' y':Nat->Int)(i:Nat)(K:Ex->St->Prop):aF svE (aA svR 0) svF svP 0 K (svS n m x y x' y' i)=
 (Br (decide ((↑i:Int)<(↑n:Int))) (Br (decide (0<=(↑i:Int))&&decide ((↑i:Int)<(↑n:Int))) (Br (decide (0<=(↑i:Int))&&decide ((↑i:Int)<(↑m:Int))) (Br (!(x (↑i:Int).toNat==x' (↑i:Int).toNat&&y (↑i:Int).toNat==y' (↑i:Int).toNat)) (K Ex.ret {tmps:=[(0,SV.ro n 2 (bA x y)),(1,SV.ro m 2 (bA x' y')),(4,SV.bool false),(5,SV.int .i64 (↑i:Int))],store:=[],nxt:=0,dirty:=[],nt:=26}) (K Ex.normal {tmps:=[(0,SV.ro n 2 (bA x y)),(1,SV.ro m 2 (bA x' y')),(4,SV.bool false),(5,SV.int .i64 (IntKind.i64.wrap ((↑i:Int)+1)))],store:=[],nxt:=0,dirty:=[],nt:=26})) (False)) (False)) (K (Ex.exit 0) {tmps:=[(0,SV.ro n 2 (bA x y)),(1,SV.ro m 2 (bA x' y')),(4,SV.bool false),(5,SV.int .i64 (↑i:Int))],store:=[],nxt:=0,dirty:=[],nt:=26})):=by kernel_rfl
theorem aDQ(n m:Nat)(x y x' y':Nat->Int)(i:Nat)(K:KC):aB svE (aA svR 0) svF svP 0 K (.exit 0) (svS n m x y x' y' i)=
 (K (SV.bool true) [] []):=by kernel_rfl
def gvR :List (Nat×eI):=[(0,⟨[2,3,4,5],[0,1],[0,1],2,[]⟩),(2,⟨[2,3,4,6],[0,1],[0,1],2,[]⟩),(4,⟨[2,3,4,7],[0,1],[0,1],2,[]⟩)]
def gvS(nt:Nat)(t u:Trk)(v:Nat)(i:Int):St:=⟨[(2,.ptr 0 0),(3,.ptr 1 0),(4,.bool false),(v,.int .i64 i)],[(0,some (.cells 34 (aI t))),(1,some (.cells 34 (aI u)))],2,[0,1],nt⟩
noncomputable abbrev gvE :Env:=fG gvR (fun _=>0) o7 1
noncomputable abbrev gvF :Func:=Tryz.f53
abbrev aF9 :List Nat:=[1,1,0,1,0]
abbrev aGl :List Nat:=[1,1,1,0,1,0]
abbrev aFM :List Nat:=[1,1,1,1,0,1,0]
theorem aDp(t u:Trk)(K:KC):cL gvR (fun _=>0) o7 2 53 [.agg (aI t),.agg (aI u)] [] K=
 (Br (t.rate !=u.rate) (K (SV.bool false) [] []) (Br (t.cell !=u.cell) (K (SV.bool false) [] []) (Br (t.cols !=u.cols) (K (SV.bool false) [] []) (Br (t.rows !=u.rows) (K (SV.bool false) [] []) (Br (!(t.cx==u.cx&&t.cy==u.cy)) (K (SV.bool false) [] []) (Br ((↑t.nh:Int) !=(↑u.nh:Int)) (K (SV.bool false) [] []) (Br ((↑t.ng:Int) !=(↑u.ng:Int)) (K (SV.bool false) [] []) (Br ((↑t.nk:Int) !=(↑u.nk:Int)) (K (SV.bool false) [] []) (∃q_,aV gvE (aA gvR 0) gvF aF9 0 0 K q_ {tmps:=[(2,SV.ptr 0 0),(3,SV.ptr 1 0),(4,SV.bool false),(5,SV.int .i64 0)],store:=[(0,some (SB.cells 34 (aI t))),(1,some (SB.cells 34 (aI u)))],nxt:=2,dirty:=[0,1],nt:=122}))))))))):=by kernel_rfl
theorem aH5(t u:Trk)(i:Nat)(K:Ex->St->Prop):aF gvE (aA gvR 0) gvF aF9 0 K (gvS 122 t u 5 i)=
 (Br (decide ((↑i:Int)<(↑t.nh:Int))) (Br (decide (0<=(↑i:Int))&&decide ((↑i:Int)<(↑t.nh:Int))) (Br (decide (0<=(↑i:Int))&&decide ((↑i:Int)<(↑u.nh:Int))) (Br (t.h (↑i:Int).toNat !=u.h (↑i:Int).toNat) (K Ex.ret {tmps:=[(2,SV.ptr 0 0),(3,SV.ptr 1 0),(4,SV.bool false),(5,SV.int .i64 (↑i:Int))],store:=[(0,some (SB.cells 34 (aI t))),(1,some (SB.cells 34 (aI u)))],nxt:=2,dirty:=[0,1],nt:=122}) (K Ex.normal {tmps:=[(2,SV.ptr 0 0),(3,SV.ptr 1 0),(4,SV.bool false),(5,SV.int .i64 (IntKind.i64.wrap ((↑i:Int)+1)))],store:=[(0,some (SB.cells 34 (aI t))),(1,some (SB.cells 34 (aI u)))],nxt:=2,dirty:=[0,1],nt:=122})) (False)) (False)) (K (Ex.exit 0) {tmps:=[(2,SV.ptr 0 0),(3,SV.ptr 1 0),(4,SV.bool false),(5,SV.int .i64 (↑i:Int))],store:=[(0,some (SB.cells 34 (aI t))),(1,some (SB.cells 34 (aI u)))],nxt:=2,dirty:=[0,1],nt:=122})):=by kernel_rfl
theorem aIk(t u:Trk)(i:Nat)(K:Ex->St->Prop):aF gvE (aA gvR 0) gvF aGl 2 K (gvS 122 t u 6 i)=
 (Br (decide ((↑i:Int)<(↑t.ng:Int))) (Br (decide (0<=(↑i:Int))&&decide ((↑i:Int)<(↑t.ng:Int))) (Br (decide (0<=(↑i:Int))&&decide ((↑i:Int)<(↑u.ng:Int))) (Br (t.g (↑i:Int).toNat !=u.g (↑i:Int).toNat) (K Ex.ret {tmps:=[(2,SV.ptr 0 0),(3,SV.ptr 1 0),(4,SV.bool false),(6,SV.int .i64 (↑i:Int))],store:=[(0,some (SB.cells 34 (aI t))),(1,some (SB.cells 34 (aI u)))],nxt:=2,dirty:=[0,1],nt:=122}) (K Ex.normal {tmps:=[(2,SV.ptr 0 0),(3,SV.ptr 1 0),(4,SV.bool false),(6,SV.int .i64 (IntKind.i64.wrap ((↑i:Int)+1)))],store:=[(0,some (SB.cells 34 (aI t))),(1,some (SB.cells 34 (aI u)))],nxt:=2,dirty:=[0,1],nt:=122})) (False)) (False)) (K (Ex.exit 2) {tmps:=[(2,SV.ptr 0 0),(3,SV.ptr 1 0),(4,SV.bool false),(6,SV.int .i64 (↑i:Int))],store:=[(0,some (SB.cells 34 (aI t))),(1,some (SB.cells 34 (aI u)))],nxt:=2,dirty:=[0,1],nt:=122})):=by kernel_rfl
theorem aIg(t u:Trk)(i:Nat)(K:Ex->St->Prop):aF gvE (aA gvR 0) gvF aFM 4 K (gvS 122 t u 7 i)=
 (Br (decide ((↑i:Int)<(↑t.nk:Int))) (Br (decide (0<=(↑i:Int))&&decide ((↑i:Int)<(↑t.nk:Int))) (Br (decide (0<=(↑i:Int))&&decide ((↑i:Int)<(↑u.nk:Int))) (Br (!(t.kg (↑i:Int).toNat==u.kg (↑i:Int).toNat&&(t.kd (↑i:Int).toNat==u.kd (↑i:Int).toNat&&t.ko (↑i:Int).toNat==u.ko (↑i:Int).toNat))) (K Ex.ret {tmps:=[(2,SV.ptr 0 0),(3,SV.ptr 1 0),(4,SV.bool false),(7,SV.int .i64 (↑i:Int))],store:=[(0,some (SB.cells 34 (aI t))),(1,some (SB.cells 34 (aI u)))],nxt:=2,dirty:=[0,1],nt:=122}) (K Ex.normal {tmps:=[(2,SV.ptr 0 0),(3,SV.ptr 1 0),(4,SV.bool false),(7,SV.int .i64 (IntKind.i64.wrap ((↑i:Int)+1)))],store:=[(0,some (SB.cells 34 (aI t))),(1,some (SB.cells 34 (aI u)))],nxt:=2,dirty:=[0,1],nt:=122})) (False)) (False)) (K (Ex.exit 4) {tmps:=[(2,SV.ptr 0 0),(3,SV.ptr 1 0),(4,SV.bool false),(7,SV.int .i64 (↑i:Int))],store:=[(0,some (SB.cells 34 (aI t))),(1,some (SB.cells 34 (aI u)))],nxt:=2,dirty:=[0,1],nt:=122})):=by kernel_rfl
theorem aMg(t u:Trk)(i:Nat)(K:KC):aB gvE (aA gvR 0) gvF aF9 0 K (.exit 0) (gvS 122 t u 5 i)=
 (∃q_,aV gvE (aA gvR 0) gvF aGl 2 0 K q_ {tmps:=[(2,SV.ptr 0 0),(3,SV.ptr 1 0),(4,SV.bool false),(6,SV.int .i64 0)],store:=[(0,some (SB.cells 34 (aI t))),(1,some (SB.cells 34 (aI u)))],nxt:=2,dirty:=[0,1],nt:=122}):=by kernel_rfl
theorem aLT(t u:Trk)(i:Nat)(K:KC):aB gvE (aA gvR 0) gvF aGl 0 K (.exit 2) (gvS 122 t u 6 i)=
 (∃q_,aV gvE (aA gvR 0) gvF aFM 4 0 K q_ {tmps:=[(2,SV.ptr 0 0),(3,SV.ptr 1 0),(4,SV.bool false),(7,SV.int .i64 0)],store:=[(0,some (SB.cells 34 (aI t))),(1,some (SB.cells 34 (aI u)))],nxt:=2,dirty:=[0,1],nt:=122}):=by kernel_rfl
theorem aL3(t u:Trk)(i:Nat)(K:KC):aB gvE (aA gvR 0) gvF aFM 0 K (.exit 4) (gvS 122 t u 7 i)=
 (K (SV.bool true) [] []):=by kernel_rfl
theorem aJT{n m:Nat}{x y x' y':Nat->Int}(hm:n=m)(h: ∀i,i<n->x i=x' i/\y i=y' i)(hn:n<9223372036854775808)(K:KC)(hK:K (.bool true) [] []):cL svR (fun _=>0) o7 2 54 [.ro n 2 (bA x y),.ro m 2 (bA x' y')] [] K:=by
 rw [aCk,YO hm]
 refine ⟨n+1,j8 (fun i:Nat=>svS n m x y x' y' i) n (fun _=>True) (fun i hi _ X hX=> ?_) (fun _ X=> ?_) trivial⟩
 ·rw [OY,aK hi hn]
  obtain ⟨h1,h2⟩:=h i hi
  exact yM hi hm (aCG (by simp [h1,h2])) (hX trivial)
 ·rw [OY]
  refine Br.of (fun c=>g7 c) fun _=> ?_
  show aB svE (aA svR 0) svF svP 0 K (.exit 0) (svS n m x y x' y' n)
  rw [aDQ];exact hK
def FN :List SV->List (Option SB)->KC->Prop
 | [.ro n 2 g,.ro m 2 h],[],K=>pts g/\pts h/\(n=m/\ ∀i,i<n->px (g i)=px (h i)/\py (g i)=py (h i))/\K (.bool true) [] []
 |_,_,_=>False
theorem QB(xs:List SV)(σ:List (Option SB)):Sat Tryz.prog 54 xs σ (FN xs σ):=by
 intro K hK
 unfold FN at hK
 split at hK
 ·obtain ⟨h1,h2,⟨h3,h4⟩,hK⟩:=hK
  refine ⟨_,_,_,hK, ?_⟩
  rw [rO h1,rO h2]
  exact eF svR (fun _=>0) o7 2 (fun p hp=>by cases hp) fun h5 _ K hK=>aJT h3 h4 h5.1.1 K (hK _ fun _ h=>h)
 ·exact hK.elim
theorem aLs{t u:Trk}(h:xF t u)(n1:t.nh<9223372036854775808)(n2:t.ng<9223372036854775808)(n3:t.nk<9223372036854775808)(K:KC)(hK:K (.bool true) [] []):cL gvR (fun _=>0) o7 2 53 [.agg (aI t),.agg (aI u)] [] K:=by
 obtain ⟨⟨a1,a2,a3,a4,a5,a6,a7,a8,a9⟩,b1,b2,b3,_⟩:=h
 rw [aDp,KZ a1,KZ a2,KZ a3,KZ a4,show (!(t.cx==u.cx&&t.cy==u.cy))=false from aCG (by simp [a5,a6]),YO a7,YO a8,YO a9]
 refine ⟨t.nh+1,j8 (fun i:Nat=>gvS 122 t u 5 i) t.nh (fun _=>True) (fun i hi _ X hX=> ?_) (fun _ X=> ?_) trivial⟩
 ·rw [aH5,aK hi n1]
  exact yM hi a7 (KZ (b1 i hi)) (hX trivial)
 rw [aH5]
 refine Br.of (fun c=>g7 c) fun _=> ?_
 show aB gvE (aA gvR 0) gvF aF9 0 K (.exit 0) (gvS 122 t u 5 t.nh)
 rw [aMg]
 refine ⟨t.ng+1,j8 (fun i:Nat=>gvS 122 t u 6 i) t.ng (fun _=>True) (fun i hi _ X hX=> ?_) (fun _ X=> ?_) trivial⟩
 ·rw [aIk,aK hi n2]
  exact yM hi a8 (KZ (b2 i hi)) (hX trivial)
 rw [aIk]
 refine Br.of (fun c=>g7 c) fun _=> ?_
 show aB gvE (aA gvR 0) gvF aGl 0 K (.exit 2) (gvS 122 t u 6 t.ng)
 rw [aLT]
 refine ⟨t.nk+1,j8 (fun i:Nat=>gvS 122 t u 7 i) t.nk (fun _=>True) (fun i hi _ X hX=> ?_) (fun _ X=> ?_) trivial⟩
 ·rw [aIg,aK hi n3]
  obtain ⟨c1,c2,c3⟩:=b3 i hi
  exact yM hi a9 (aCG (by simp [c1,c2,c3])) (hX trivial)
 rw [aIg]
 refine Br.of (fun c=>g7 c) fun _=> ?_
 show aB gvE (aA gvR 0) gvF aFM 0 K (.exit 4) (gvS 122 t u 7 t.nk)
 rw [aL3];exact hK
theorem Q7(xs:List SV)(σ:List (Option SB)):Sat Tryz.prog 53 xs σ (yH xs σ):=
 GV (fun _ _ h=>eF gvR (fun _=>0) o7 2 (fun p hp=>by cases hp) fun h5 _ K hK=>aLs h (FX h5.1).1 (FX h5.1).2.1 (FX h5.1).2.2.1 K (hK _ fun _ h=>h)) xs σ
noncomputable def oa :bT Tryz.prog:=((o7).add 54 FN QB).add 53 yH Q7
def saR :List (Nat×eI):=[(0,⟨[2,3,4,5],[0,1],[0,1],2,[]⟩),(2,⟨[2,3,4,6],[0,1],[0,1],2,[]⟩)]
noncomputable abbrev saE :Env:=fG saR (fun _=>0) oa 1
noncomputable abbrev saF :Func:=Tryz.f13
abbrev aGz :List Nat:=[1,1,0,1,0]
abbrev aHn :List Nat:=[1,1,1,0,1,0]
theorem aCj(t u:Trk)(K:KC):cL saR (fun _=>0) oa 2 13 [.agg (aI t),.agg (aI u)] [] K=
 ((iX (aP t.h) (aP t.g) (fH t) (bA t.lx t.ly) (bN t) (fB t))/\((iX (aP u.h) (aP u.g) (fH u) (bA u.lx u.ly) (bN u) (fB u))/\((xF t u)/\((pts (bA t.lx t.ly))/\((pts (bA u.lx u.ly))/\((t.nl=u.nl/\ ∀(i:Nat),i<t.nl->px (bA t.lx t.ly i)=px (bA u.lx u.ly i)/\py (bA t.lx t.ly i)=py (bA u.lx u.ly i))/\(Br ((↑t.nr:Int) !=(↑u.nr:Int)) (K (SV.bool false) [] []) (Br ((↑t.nt:Int) !=(↑u.nt:Int)) (K (SV.bool false) [] []) (Br (!(t.sx==u.sx&&t.sy==u.sy)) (K (SV.bool false) [] []) (Br (t.head !=u.head) (K (SV.bool false) [] []) (Br (t.laps !=u.laps) (K (SV.bool false) [] []) (∃q_,aV saE (aA saR 0) saF aGz 0 0 K q_ {tmps:=[(2,SV.ptr 0 0),(3,SV.ptr 1 0),(4,SV.bool false),(5,SV.int .i64 0)],store:=[(0,some (SB.cells 34 (aI t))),(1,some (SB.cells 34 (aI u)))],nxt:=2,dirty:=[0,1],nt:=95})))))))))))):=by kernel_rfl
theorem aIn(t u:Trk)(i:Nat)(K:Ex->St->Prop):aF saE (aA saR 0) saF aGz 0 K (gvS 95 t u 5 i)=
 (Br (decide ((↑i:Int)<(↑t.nr:Int))) (Br (decide (0<=(↑i:Int))&&decide ((↑i:Int)<(↑t.nr:Int))) (Br (decide (0<=(↑i:Int))&&decide ((↑i:Int)<(↑u.nr:Int))) ((pts (bA (t.rx (↑i:Int).toNat) (t.ry (↑i:Int).toNat)))/\((pts (bA (u.rx (↑i:Int).toNat) (u.ry (↑i:Int).toNat)))/\((t.rn (↑i:Int).toNat=u.rn (↑i:Int).toNat/\ ∀(i_1:Nat),i_1<t.rn (↑i:Int).toNat->px (bA (t.rx (↑i:Int).toNat) (t.ry (↑i:Int).toNat) i_1)=px (bA (u.rx (↑i:Int).toNat) (u.ry (↑i:Int).toNat) i_1)/\py (bA (t.rx (↑i:Int).toNat) (t.ry (↑i:Int).toNat) i_1)=py (bA (u.rx (↑i:Int).toNat) (u.ry (↑i:Int).toNat) i_1))/\(K Ex.normal {tmps:=[(2,SV.ptr 0 0),(3,SV.ptr 1 0),(4,SV.bool false),(5,SV.int .i64 (IntKind.i64.wrap ((↑i:Int)+1)))],store:=[(0,some (SB.cells 34 (aI t))),(1,some (SB.cells 34 (aI u)))],nxt:=2,dirty:=[0,1],nt:=95})))) (False)) (False)) (K (Ex.exit 0) {tmps:=[(2,SV.ptr 0 0),(3,SV.ptr 1 0),(4,SV.bool false),(5,SV.int .i64 (↑i:Int))],store:=[(0,some (SB.cells 34 (aI t))),(1,some (SB.cells 34 (aI u)))],nxt:=2,dirty:=[0,1],nt:=95})):=by kernel_rfl
theorem aIe(t u:Trk)(i:Nat)(K:Ex->St->Prop):aF saE (aA saR 0) saF aHn 2 K (gvS 95 t u 6 i)=
 (Br (decide ((↑i:Int)<(↑t.nt:Int))) (Br (decide (0<=(↑i:Int))&&decide ((↑i:Int)<(↑t.nt:Int))) (Br (decide (0<=(↑i:Int))&&decide ((↑i:Int)<(↑u.nt:Int))) (Br (!(t.ax (↑i:Int).toNat==u.ax (↑i:Int).toNat&&t.ay (↑i:Int).toNat==u.ay (↑i:Int).toNat&&(t.bx (↑i:Int).toNat==u.bx (↑i:Int).toNat&&t.sb (↑i:Int).toNat==u.sb (↑i:Int).toNat&&t.sp (↑i:Int).toNat==u.sp (↑i:Int).toNat))) (K Ex.ret {tmps:=[(2,SV.ptr 0 0),(3,SV.ptr 1 0),(4,SV.bool false),(6,SV.int .i64 (↑i:Int))],store:=[(0,some (SB.cells 34 (aI t))),(1,some (SB.cells 34 (aI u)))],nxt:=2,dirty:=[0,1],nt:=95}) (K Ex.normal {tmps:=[(2,SV.ptr 0 0),(3,SV.ptr 1 0),(4,SV.bool false),(6,SV.int .i64 (IntKind.i64.wrap ((↑i:Int)+1)))],store:=[(0,some (SB.cells 34 (aI t))),(1,some (SB.cells 34 (aI u)))],nxt:=2,dirty:=[0,1],nt:=95})) (False)) (False)) (K (Ex.exit 2) {tmps:=[(2,SV.ptr 0 0),(3,SV.ptr 1 0),(4,SV.bool false),(6,SV.int .i64 (↑i:Int))],store:=[(0,some (SB.cells 34 (aI t))),(1,some (SB.cells 34 (aI u)))],nxt:=2,dirty:=[0,1],nt:=95})):=by kernel_rfl
theorem aMq(t u:Trk)(i:Nat)(K:KC):aB saE (aA saR 0) saF aGz 0 K (.exit 0) (gvS 95 t u 5 i)=
 (∃q_,aV saE (aA saR 0) saF aHn 2 0 K q_ {tmps:=[(2,SV.ptr 0 0),(3,SV.ptr 1 0),(4,SV.bool false),(6,SV.int .i64 0)],store:=[(0,some (SB.cells 34 (aI t))),(1,some (SB.cells 34 (aI u)))],nxt:=2,dirty:=[0,1],nt:=95}):=by kernel_rfl
theorem aLS(t u:Trk)(i:Nat)(K:KC):aB saE (aA saR 0) saF aHn 0 K (.exit 2) (gvS 95 t u 6 i)=
 (K (SV.bool true) [] []):=by kernel_rfl
theorem aDa{i n m:Nat}(hi:i<n)(hm:n=m){N X:Prop}(h:N):
  Br (decide ((i:Int)<(n:Int))) (Br (decide (0<=(i:Int))&&decide ((i:Int)<(n:Int))) (Br (decide (0<=(i:Int))&&decide ((i:Int)<(m:Int))) N False) False) X:=by
 subst hm
 exact Br.of (fun _=>Br.of (fun _=>Br.of (fun _=>h) fun c=>eA hi c) fun c=>eA hi c) fun c=>iI hi c
theorem aJx{t u:Trk}(h:xF t u)(n1:t.nr<9223372036854775808)(n2:t.nt<9223372036854775808)(K:KC)(hK:K (.bool true) [] []):cL saR (fun _=>0) oa 2 13 [.agg (aI t),.agg (aI u)] [] K:=by
 have h0:=h
 obtain ⟨_,_,_,_,⟨c1,c2⟩,⟨d1,d2⟩,⟨e1,e2⟩,f1,f2,f3,f4⟩:=h
 rw [aCj,YO d1,YO e1,show (!(t.sx==u.sx&&t.sy==u.sy))=false from aCG (by simp [f1,f2]),KZ f3,KZ f4]
 refine ⟨fZ t,fZ u,h0,fun _=>rfl,fun _=>rfl,⟨c1,c2⟩, ?_⟩
 refine ⟨t.nr+1,j8 (fun i:Nat=>gvS 95 t u 5 i) t.nr (fun _=>True) (fun i hi _ X hX=> ?_) (fun _ X=> ?_) trivial⟩
 ·rw [aIn,aK hi n1]
  exact aDa hi d1 ⟨fun _=>rfl,fun _=>rfl,d2 i hi,hX trivial⟩
 rw [aIn]
 refine Br.of (fun c=>g7 c) fun _=> ?_
 show aB saE (aA saR 0) saF aGz 0 K (.exit 0) (gvS 95 t u 5 t.nr)
 rw [aMq]
 refine ⟨t.nt+1,j8 (fun i:Nat=>gvS 95 t u 6 i) t.nt (fun _=>True) (fun i hi _ X hX=> ?_) (fun _ X=> ?_) trivial⟩
 ·rw [aIe,aK hi n2]
  obtain ⟨g1,g2,g3,g4,g5⟩:=e2 i hi
  exact yM hi e1 (aCG (by simp [g1,g2,g3,g4,g5])) (hX trivial)
 rw [aIe]
 refine Br.of (fun c=>g7 c) fun _=> ?_
 show aB saE (aA saR 0) saF aHn 0 K (.exit 2) (gvS 95 t u 6 t.nt)
 rw [aLS];exact hK
theorem NR{t u:Trk}(h:xF t u):aE Tryz.prog 13 [.agg (aI t),.agg (aI u)] [] (.bool true) [] []:=
 eF saR (fun _=>0) oa 2 (fun p hp=>by cases hp) fun h5 _ K hK=>aJx h (FX h5.1).2.2.2.2.1 (FX h5.1).2.2.2.2.2 K (hK _ fun _ h=>h)
theorem IB(xs:List SV)(σ:List (Option SB)):Sat Tryz.prog 13 xs σ (yH xs σ):=
 GV (fun _ _ h=>NR h) xs σ
noncomputable def ob :bT Tryz.prog:=(oa).add 13 yH IB
end Go.Proofs.YtghnfjfkjhbgdaaGreatDoor
namespace Go.Se
abbrev Ln :=List Int×List (List Int)
def rL :List Ln->List Int
 | []=>[]
 |l::r=>lnW l.1 l.2++rL r
def qOf :Int->List Ln->List (Int×List (List Int))
 |_,[]=>[]
 |k,l::r=>(k+1,l.1::l.2)::qOf (k+1) r
def ML(l:Ln):Prop:=(l.1≠[]/\dF l.1)/\ ∀x,x∈l.2->x≠[]/\dF x
theorem aIv : ∀(ls:List Ln) (k:Int),(∀l,l∈ls->ML l)->nbF k (lnR [] (rL ls))=qOf k ls
 | [],_,_=>rfl
 |l::r,k,h=>by
  obtain ⟨⟨h1,h2⟩,h3⟩:=h l (bq ..)
  show nbF k (lnR [] ((l.1++eL l.2++[10])++rL r))=_
  rw [bo _ [10]]
  show nbF k (lnR [] (l.1++eL l.2++10::rL r))=_
  rw [aG9 h1 h2 h3,aIv r (k+1) fun x hx=>h x (bm _ hx)];rfl
theorem LU : ∀a b:List Ln,rL (a++b)=rL a++rL b
 | [],_=>rfl
 |l::a,b=>by show lnW l.1 l.2++rL (a++b)=(lnW l.1 l.2++rL a)++rL b;rw [LU a b,bo]
def AtQ(ls:List Ln)(b:Bk):Prop:=(∃k,b.q=qOf k ls)/\b.err=0/\b.place=0
theorem aGp{ls:List Ln}(h: ∀l,l∈ls->ML l):AtQ ls (lX (rL ls)):=⟨⟨0,aIv ls 0 h⟩,rfl,rfl⟩
theorem MJ(a:ByteArray):(a==a)=true:=by rw [show (a==a)=(a.data==a.data) from rfl,beq_self_eq_true]
theorem aHE{w:List Int}{r:List (List Int)}{ls:List Ln}{b:Bk}(h:AtQ ((w,r)::ls) b):iE b (ba w)=true:=by
 obtain ⟨⟨k,hq⟩,he,_⟩:=h
 unfold iE eC
 rw [hq,he]
 show (true&&(true&&(bytesOf w==ba w)))=true
 rw [MJ];rfl
theorem M9{w v:List Int}{r:List (List Int)}{ls:List Ln}{b:Bk}(h:AtQ ((w,r)::ls) b)(hv:(ba w==ba v)=false):iE b (ba v)=false:=by
 obtain ⟨⟨k,hq⟩,he,_⟩:=h
 unfold iE eC
 rw [hq,he]
 show (true&&(true&&(bytesOf w==ba v)))=false
 rw [hv];rfl
theorem XM{w:List Int}{r:List (List Int)}{ls:List Ln}{b:Bk}(h:AtQ ((w,r)::ls) b){lo hi:Int}(h1:lo<=r.length)(h2:(r.length:Int)<=hi)(all:Int):
  iT b (ba w) lo hi=false/\kE b=r/\AtQ ls (i7 all b (ba w) lo hi):=by
 obtain ⟨⟨k,hq⟩,he,hp⟩:=h
 have hh:eC b.q=(k+1,w::r):=by unfold eC;rw [hq];rfl
 have hE:pA b (ba w) lo hi=0:=by
  unfold pA
  rw [hh,show b.q.isEmpty=false by rw [hq];rfl]
  show (bif !(bytesOf w==ba w) then (21:Int) else bif decide ((((w::r).length:Int) - 1)<lo)||decide ((((w::r).length:Int) - 1)>hi) then 22 else 0)=0
  rw [MJ,az,aj (show¬(((r.length+1:Nat):Int) - 1<lo) by omega),aj (show¬(((r.length+1:Nat):Int) - 1>hi) by omega)];rfl
 refine ⟨?_, ?_, ?_⟩
 ·unfold iT;rw [he,hE];rfl
 ·unfold kE;rw [hh];rfl
 ·unfold i7
  rw [he,hE]
  exact ⟨⟨k+1,by show b.q.tail=_;rw [hq];rfl⟩,rfl,hp⟩
theorem xK{w:List Int}{r:List (List Int)}{ls:List Ln}{b:Bk}(h:AtQ ((w,r)::ls) b){n:Nat}(hn:r.length=n)(all:Int):lnV b (ba w) n=r/\AtQ ls (lnB all b (ba w) n):=by
 obtain ⟨h1,h2,h3⟩:=XM h (lo:=n) (hi:=n) (by omega) (by omega) all
 exact ⟨by unfold lnV;rw [h1,h2];rfl,h3⟩
theorem wA{ls:List Ln}{b:Bk}(h:AtQ ls b){n:Int}(hn:cJ n):yY b (rl (aC n))=n/\nA b (rl (aC n))=b:=by
 have e:rl (aC n)=aC n:=cX (mF n)
 obtain ⟨h1,h2⟩:=aBX (b:=b) h.2.1 hn.1 hn.2
 rw [e];exact ⟨h2,h1⟩
theorem E5{ls:List Ln}{b:Bk}(h:AtQ ls b){n lo hi:Int}(h0: -999999999999999999<=n)(h1:n<=999999999999999999)(hl:lo<=n)(hh:n<=hi):mX b (rl (aH n)) lo hi=n/\kR b (rl (aH n)) lo hi=b:=by
 obtain ⟨a,c⟩:=aCR (b:=b) h.2.1 h0 h1 hl hh
 exact ⟨c,a⟩
theorem aMz{ls:List Ln}{b:Bk}(h:AtQ ls b)(z:Bool):(rE b (ba (onW z)) [ba wOn,ba KE]==1)=z/\mV b (ba (onW z)) [ba wOn,ba KE]=b:=by
 have he:(b.err==0)=true:=by rw [h.2.1];rfl
 cases z with
 |false=>obtain ⟨a,c⟩:=mH (s:=ba wOn) (ws:=[ba wOn,ba KE]) (j:=0) he (by decide+kernel) (by decide);exact ⟨by show (rE b (ba wOn) _==1)=_;rw [a];rfl,c⟩
 |true=>obtain ⟨a,c⟩:=mH (s:=ba KE) (ws:=[ba wOn,ba KE]) (j:=1) he (by decide+kernel) (by decide);exact ⟨by show (rE b (ba KE) _==1)=_;rw [a];rfl,c⟩
theorem aLU{ls:List Ln}{b:Bk}(h:AtQ ls b)(z:Bool):(rE b (ba (gI z)) [ba tC,ba tQ]==1)=z/\mV b (ba (gI z)) [ba tC,ba tQ]=b:=by
 have he:(b.err==0)=true:=by rw [h.2.1];rfl
 cases z with
 |false=>obtain ⟨a,c⟩:=mH (s:=ba tC) (ws:=[ba tC,ba tQ]) (j:=0) he (by decide+kernel) (by decide);exact ⟨by show (rE b (ba tC) _==1)=_;rw [a];rfl,c⟩
 |true=>obtain ⟨a,c⟩:=mH (s:=ba tQ) (ws:=[ba tC,ba tQ]) (j:=1) he (by decide+kernel) (by decide);exact ⟨by show (rE b (ba tQ) _==1)=_;rw [a];rfl,c⟩
theorem I1{ls:List Ln}{b:Bk}(h:AtQ ls b): ∀(L acc:List Int),(∀x,x∈L->cJ x)->(L.map aC).foldl vC (acc,b)=(acc++L,b)
 | [],acc,_=>by rw [cm];rfl
 |x::L,acc,hL=>by
  obtain ⟨a,c⟩:=wA h (hL x (bq ..))
  show (L.map aC).foldl vC (acc++[yY b (rl (aC x))],nA b (rl (aC x)))=_
  rw [a,c,I1 h L _ fun y hy=>hL y (bm _ hy),bo];rfl
theorem JG{ls:List Ln}{b:Bk}(h:AtQ ls b){lo hi:Int}(h0: -999999999999999999<=lo)(h1:hi<=999999999999999999): ∀(L acc:List Int),(∀x,x∈L->lo<=x/\x<=hi)->(L.map aH).foldl (pD lo hi) (acc,b)=(acc++L,b)
 | [],acc,_=>by rw [cm];rfl
 |x::L,acc,hL=>by
  obtain ⟨x1,x2⟩:=hL x (bq ..)
  obtain ⟨a,c⟩:=E5 h (n:=x) (lo:=lo) (hi:=hi) (by omega) (by omega) x1 x2
  show (L.map aH).foldl (pD lo hi) (acc++[mX b (rl (aH x)) lo hi],kR b (rl (aH x)) lo hi)=_
  rw [a,c,JG h h0 h1 L _ fun y hy=>hL y (bm _ hy),bo];rfl
theorem uY{α:Type}(f:Nat->α)(n:Nat):lst f (n+1)=lst f n++[f n]:=by unfold lst;rw [List.range_succ,gf];rfl
theorem AK{α:Type}{f:Bk->List α×Bk}{line:Nat->Ln}{val:Nat->List α}: ∀(n:Nat) (ls:List Ln) (b:Bk),(∀i,i<n-> ∀ls b,AtQ (line i::ls) b->(f b).1=val i/\AtQ ls (f b).2)->AtQ (lst line n++ls) b->
  (fO f n b).1=(lst val n).flatten/\AtQ ls (fO f n b).2
 |0,_,_,_,h=>⟨rfl,h⟩
 |n+1,ls,b,hs,h=>by
  rw [uY,bo] at h
  obtain ⟨h1,h2⟩:=AK n (line n::ls) b (fun i hi=>hs i (by omega)) h
  obtain ⟨h3,h4⟩:=hs n (Nat.lt_succ_self n) ls _ h2
  refine ⟨?_,h4⟩
  show (fO f n b).1++(f (fO f n b).2).1=_
  rw [h1,h3,uY,List.flatten_append];simp
theorem rX{α:Type}{w:List Int}{one:Bk->α×Bk}{piece:α->List (List Int)}{ls:List Ln}: ∀(xs:List α) (n:Nat) (acc:List α) (b:Bk),xs.length<=n->(xs.length<n-> ∀b',AtQ ls b'->iE b' (ba w)=false)->
  (∀x,x∈xs-> ∀ls b,AtQ ((w,piece x)::ls) b->(one b).1=x/\AtQ ls (one b).2)->AtQ (xs.map (fun x=>(w,piece x))++ls) b->(dW (ba w) one n (acc,b)).1=acc++xs/\AtQ ls (dW (ba w) one n (acc,b)).2
 | [],0,acc,b,_,_,_,h=>⟨by rw [cm];rfl,h⟩
 | [],n+1,acc,b,_,hn,_,h=>by
  have:=hn (de n) b h
  unfold dW
  rw [this]
  exact ⟨by rw [cm];rfl,h⟩
 |x::xs,0,_,_,h,_,_,_=>absurd h (by simp)
 |x::xs,n+1,acc,b,hl,hn,hs,h=>by
  have h:AtQ ((w,piece x)::(xs.map (fun x=>(w,piece x))++ls)) b:=h
  obtain ⟨h1,h2⟩:=hs x (bq ..) _ b h
  unfold dW
  rw [aHE h]
  simp only [ar]
  rw [h1]
  have:=rX xs n (acc++[x]) (one b).2 (by simpa using hl) (fun hlt=>hn (by simpa using hlt)) (fun y hy=>hs y (bm _ hy)) h2
  rw [bo] at this
  exact this
theorem I4(x y:Nat->Int): ∀(m a i:Nat),i<m->(cY x y a m).getD (2*i) []=aC (x (a+i))/\(cY x y a m).getD (2*i+1) []=aC (y (a+i))
 |0,_,_,h=>absurd h (dn _)
 |m+1,a,0,_=>⟨rfl,rfl⟩
 |m+1,a,i+1,h=>by
  have:=I4 x y m (a+1) i (by omega)
  rw [show a+1+i=a+(i+1) by omega] at this
  exact this
theorem PN{ls:List Ln}{b:Bk}(h:AtQ ls b){x y:Nat->Int}{m:Nat}(hx: ∀i,i<m->cJ (x i)/\cJ (y i)): ∀n,n<=m->rI b (cY x y 0 m) n=(lst (fun k=>(x k,y k)) n,b)
 |0,_=>rfl
 |n+1,hn=>by
  have e:=PN h hx n (by omega)
  obtain ⟨p1,p2⟩:=I4 x y m 0 n (by omega)
  rw [bi] at p1 p2
  obtain ⟨a1,a2⟩:=wA h (hx n (by omega)).1
  obtain ⟨c1,c2⟩:=wA h (hx n (by omega)).2
  unfold rI
  rw [e,uY]
  simp only
  unfold plP
  rw [p1,p2,a1,a2,c1,c2]
theorem HV{w:List Int}{n lo hi:Int}{ls:List Ln}{b:Bk}(h:AtQ ((w,[aH n])::ls) b)(h0: -999999999999999999<=n)(h1:n<=999999999999999999)(hl:lo<=n)(hh:n<=hi)(all:Int):
  (K0 all (ba w) lo hi b).1=n/\AtQ ls (K0 all (ba w) lo hi b).2:=by
 obtain ⟨e,h⟩:=xK h (n:=1) rfl all
 obtain ⟨a,c⟩:=E5 h h0 h1 hl hh
 unfold K0
 rw [e]
 exact ⟨a,by show AtQ ls (kR _ (rl (aH n)) lo hi);rw [c];exact h⟩
theorem aAq{w:List Int}{n:Int}{ls:List Ln}{b:Bk}(h:AtQ ((w,[aC n])::ls) b)(hn:cJ n)(all:Int):(TA all (ba w) b).1=n/\AtQ ls (TA all (ba w) b).2:=by
 obtain ⟨e,h⟩:=xK h (n:=1) rfl all
 obtain ⟨a,c⟩:=wA h hn
 unfold TA
 rw [e]
 exact ⟨a,by show AtQ ls (nA _ (rl (aC n)));rw [c];exact h⟩
theorem aAy{m n:Int}{ls:List Ln}{b:Bk}(h:AtQ ((lT,[aH m,aH n])::ls) b)(hm:1<=m/\m<=64)(hn:1<=n/\n<=64)(all:Int):(zN all b).1=(m,n)/\AtQ ls (zN all b).2:=by
 obtain ⟨e,h⟩:=xK h (n:=2) rfl all
 obtain ⟨a,c⟩:=E5 h (n:=m) (lo:=1) (hi:=64) (by omega) (by omega) hm.1 hm.2
 obtain ⟨a2,c2⟩:=E5 h (n:=n) (lo:=1) (hi:=64) (by omega) (by omega) hn.1 hn.2
 unfold zN
 rw [e]
 simp only [show ([aH m,aH n]:List (List Int)).getD 0 []=aH m from rfl,show ([aH m,aH n]:List (List Int)).getD 1 []=aH n from rfl,a,c,a2,c2]
 exact ⟨trivial,h⟩
theorem uZ{ls:List Ln}{b:Bk}(h:AtQ ls b){x y:Int}(hx:cJ x/\cJ y){p:List (List Int)}{i:Nat}(h0:p.getD i []=aC x)(h1:p.getD (i+1) []=aC y):plP b p i=((x,y),b):=by
 obtain ⟨a,c⟩:=wA h hx.1
 obtain ⟨a2,c2⟩:=wA h hx.2
 unfold plP
 rw [h0,h1,a,c,a2,c2]
theorem KU{x y:Int}{ls:List Ln}{b:Bk}(h:AtQ ((iG,[aC x,aC y])::ls) b)(hx:cJ x/\cJ y)(all:Int):(tD all b).1=(x,y)/\AtQ ls (tD all b).2:=by
 obtain ⟨e,h⟩:=xK h (n:=2) rfl all
 unfold tD
 rw [e,uZ h hx rfl rfl]
 exact ⟨rfl,h⟩
theorem N2{x y n:Int}{ls:List Ln}{b:Bk}(h:AtQ ((gC,[aC x,aC y,aH n])::ls) b)(hx:cJ x/\cJ y)(hn:0<=n/\n<=4294967295)(all:Int):(AL all b).1=((x,y),n)/\AtQ ls (AL all b).2:=by
 obtain ⟨e,h⟩:=xK h (n:=3) rfl all
 obtain ⟨a,c⟩:=E5 h (n:=n) (lo:=0) (hi:=4294967295) (by omega) (by omega) hn.1 hn.2
 unfold AL
 rw [e]
 simp only
 rw [uZ h hx (p:=[aC x,aC y,aH n]) (i:=0) rfl rfl]
 simp only [show ([aC x,aC y,aH n]:List (List Int)).getD 2 []=aH n from rfl,a,c]
 exact ⟨trivial,h⟩
def kLn(x:Int×Int×Bool):List (List Int):=[aC x.1,aC x.2.1,onW x.2.2]
def pLn(x:Int×Int):List (List Int):=[aC x.1,aC x.2]
def rLn(l:List (Int×Int)):List (List Int):=cY (fun k=>(l.getD k (0,0)).1) (fun k=>(l.getD k (0,0)).2) 0 l.length
def gLn(x:Int×Int×Int×Int×Bool):List (List Int):=[aC x.1,aC x.2.1,aC x.2.2.1,aC x.2.2.2.1,gI x.2.2.2.2]
theorem U8{x:Int×Int×Bool}{ls:List Ln}{b:Bk}(h:AtQ ((iK,kLn x)::ls) b)(hx:cJ x.1/\cJ x.2.1)(all:Int):(j0 all b).1=x/\AtQ ls (j0 all b).2:=by
 obtain ⟨e,h⟩:=xK h (n:=3) rfl all
 obtain ⟨a,c⟩:=wA h hx.1
 obtain ⟨a2,c2⟩:=wA h hx.2
 obtain ⟨a3,c3⟩:=aMz h x.2.2
 unfold j0
 rw [e]
 simp only [show (kLn x).getD 0 []=aC x.1 from rfl,show (kLn x).getD 1 []=aC x.2.1 from rfl,show (kLn x).getD 2 []=onW x.2.2 from rfl,a,c,a2,c2,a3,c3]
 exact ⟨trivial,h⟩
theorem P3{x:Int×Int}{ls:List Ln}{b:Bk}(h:AtQ ((gK,pLn x)::ls) b)(hx:cJ x.1/\cJ x.2)(all:Int):(iJ all b).1=x/\AtQ ls (iJ all b).2:=by
 obtain ⟨e,h⟩:=xK h (n:=2) rfl all
 unfold iJ
 rw [e,uZ h hx rfl rfl]
 exact ⟨rfl,h⟩
theorem R3{x:Int×Int×Int×Int×Bool}{ls:List Ln}{b:Bk}(h:AtQ ((gS,gLn x)::ls) b)(hx:cJ x.1/\cJ x.2.1/\cJ x.2.2.1/\cJ x.2.2.2.1)(all:Int):(kU all b).1=x/\AtQ ls (kU all b).2:=by
 obtain ⟨e,h⟩:=xK h (n:=5) rfl all
 obtain ⟨h1,h2,h3,h4⟩:=hx
 obtain ⟨a3,c3⟩:=aLU h x.2.2.2.2
 unfold kU
 rw [e]
 simp only
 rw [uZ h ⟨h1,h2⟩ (p:=gLn x) (i:=0) rfl rfl]
 simp only
 rw [uZ h ⟨h3,h4⟩ (p:=gLn x) (i:=2) rfl rfl]
 simp only [show (gLn x).getD 4 []=gI x.2.2.2.2 from rfl,a3,c3]
 exact ⟨trivial,h⟩
theorem VE{l:List (Int×Int)}{ls:List Ln}{b:Bk}(h:AtQ ((fP,rLn l)::ls) b)(h2:2<=(l.length:Int)/\(l.length:Int)<=64)(hx: ∀c,c∈l->cJ c.1/\cJ c.2)(all:Int):(iF all b).1=l/\AtQ ls (iF all b).2:=by
 have hl:(rLn l).length=2*l.length:=eU _ _ _ _
 obtain ⟨e1,e2,h⟩:=XM h (lo:=2) (hi:=128) (by omega) (by omega) all
 have hp:=PN h (x:=fun k=>(l.getD k (0,0)).1) (y:=fun k=>(l.getD k (0,0)).2) (m:=l.length) (fun i hi=>hx _ (yL hi)) l.length (av _)
 unfold iF
 rw [e1,e2]
 simp only [ap,hl]
 rw [show (2*l.length%2==1)=false by rw [Nat.mul_mod_right];rfl,show 2*l.length/2=l.length by omega]
 show (rI _ (rLn l) l.length).1=l/\AtQ ls (rI _ (rLn l) l.length).2
 rw [show rI (i7 all b (ba fP) 2 128) (rLn l) l.length=_ from hp]
 exact ⟨oN l (0,0),h⟩
theorem aCr{f:Nat->Int}{m i:Nat}{ls:List Ln}{b:Bk}(h:AtQ ((gR,dX f (i*m) m)::ls) b)(hx: ∀j,cJ (f j))(all:Int):(oQ all m b).1=(List.range' (i*m) m).map f/\AtQ ls (oQ all m b).2:=by
 obtain ⟨e,h⟩:=xK h (n:=m) (gP _ _ _) all
 unfold oQ j9
 rw [e,show dX f (i*m) m=((List.range' (i*m) m).map f).map aC by unfold dX;rw [gm];rfl,I1 h _ [] fun x hx'=>by
  obtain ⟨j,_,rfl⟩:=fa.1 hx'
  exact hx j]
 exact ⟨rfl,h⟩
theorem aD7{f:Nat->Int}{m i:Nat}{ls:List Ln}{b:Bk}(h:AtQ ((iO,eZ f (i*m) m)::ls) b)(hx: ∀j,0<=f j/\f j<=7)(all:Int):(s9 all m b).1=(List.range' (i*m) m).map f/\AtQ ls (s9 all m b).2:=by
 obtain ⟨e,h⟩:=xK h (n:=m) (gQ _ _ _) all
 unfold s9
 rw [e,show eZ f (i*m) m=((List.range' (i*m) m).map f).map aH by unfold eZ;rw [gm];rfl,JG h (by decide) (by decide) _ [] fun x hx'=>by
  obtain ⟨j,_,rfl⟩:=fa.1 hx'
  exact hx j]
 exact ⟨rfl,h⟩
theorem VP(f:Nat->Int)(m:Nat): ∀r,(lst (fun i=>(List.range' (i*m) m).map f) r).flatten=lst f (r*m)
 |0=>by rw [ce];rfl
 |r+1=>by
  rw [uY,List.flatten_append,VP f m r,bp,cj]
  unfold lst
  rw [List.range_eq_range',List.range_eq_range',List.flatten_singleton,<- gf]
  congr 1
  have:=List.range'_append (s:=0) (m:=r*m) (n:=m) (step:=1)
  simpa using this
theorem lN(g:Nat->Ln): ∀n,bL (fun i=>lnW (g i).1 (g i).2) 0 n=rL (lst g n)
 |0=>rfl
 |n+1=>by rw [lU,lN g n,uY,LU,bi];show _=_++(lnW (g n).1 (g n).2++[]);rw [cm]
theorem DA{α:Type}(F:α->Ln)(xs:List α)(d:α):lst (fun i=>F (xs.getD i d)) xs.length=xs.map F:=by
 have:=congrArg (List.map F) (oN xs d)
 unfold lst at this|-
 rw [gm] at this
 exact this
def hLn(t:TL)(i:Nat):Ln:=(gR,dX t.trk.h (i*(t.cols+1).toNat) (t.cols+1).toNat)
def oLn(t:TL)(i:Nat):Ln:=(iO,eZ t.trk.g (i*t.cols.toNat) t.cols.toNat)
def E4(t:TL):List Ln:=[(gC,[aC t.start.1,aC t.start.2,aH t.head]),(m9,[aH t.laps])]
def F4(t:TL):List Ln:=t.line.map (fun x=>(gK,pLn x))++(t.rails.map (fun x=>(fP,rLn x))++(t.gates.map (fun x=>(gS,gLn x))++E4 t))
def sT(t:TL):List Ln:=(oE,[aH t.rate])::(n9,[aC t.cell])::(lT,[aH t.cols,aH t.rows])::(iG,[aC t.corner.1,aC t.corner.2])::
 (lst (hLn t) (t.rows+1).toNat++(lst (oLn t) t.rows.toNat++(t.kinds.map (fun x=>(iK,kLn x))++F4 t)))
theorem DI(t:TL):xA t.trk=rL (sT t):=by
 have e1:bL (fun r=>lnW gR (dX t.trk.h (r*(t.cols+1).toNat) (t.cols+1).toNat)) 0 (t.rows+1).toNat=rL (lst (hLn t) (t.rows+1).toNat):=lN (hLn t) _
 have e2:bL (fun r=>lnW iO (eZ t.trk.g (r*t.cols.toNat) t.cols.toNat)) 0 t.rows.toNat=rL (lst (oLn t) t.rows.toNat):=lN (oLn t) _
 have e3:bL (fun i=>lnW iK [aC (t.trk.kg i),aC (t.trk.kd i),onW (t.trk.ko i)]) 0 t.kinds.length=rL (t.kinds.map fun x=>(iK,kLn x)):=by
  rw [<- DA (fun x=>(iK,kLn x)) t.kinds (0,0,false)];exact lN (fun i=>(iK,kLn (t.kinds.getD i (0,0,false)))) _
 have e4:bL (fun i=>lnW gK [aC (t.trk.lx i),aC (t.trk.ly i)]) 0 t.line.length=rL (t.line.map fun x=>(gK,pLn x)):=by
  rw [<- DA (fun x=>(gK,pLn x)) t.line (0,0)];exact lN (fun i=>(gK,pLn (t.line.getD i (0,0)))) _
 have e5:bL (fun i=>lnW fP (cY (t.trk.rx i) (t.trk.ry i) 0 (t.trk.rn i))) 0 t.rails.length=rL (t.rails.map fun x=>(fP,rLn x)):=by
  rw [<- DA (fun x=>(fP,rLn x)) t.rails []];exact lN (fun i=>(fP,rLn (t.rails.getD i []))) _
 have e6:bL (fun i=>lnW gS [aC (t.trk.ax i),aC (t.trk.ay i),aC (t.trk.bx i),aC (t.trk.sb i),gI (t.trk.sp i)]) 0 t.gates.length=rL (t.gates.map fun x=>(gS,gLn x)):=by
  rw [<- DA (fun x=>(gS,gLn x)) t.gates (0,0,0,0,false)];exact lN (fun i=>(gS,gLn (t.gates.getD i (0,0,0,0,false)))) _
 show (lnW oE [aH t.rate]++lnW n9 [aC t.cell]++lnW lT [aH t.cols,aH t.rows]++lnW iG [aC t.corner.1,aC t.corner.2]++
  bL (fun r=>lnW gR (dX t.trk.h (r*(t.cols+1).toNat) (t.cols+1).toNat)) 0 (t.rows+1).toNat++
  bL (fun r=>lnW iO (eZ t.trk.g (r*t.cols.toNat) t.cols.toNat)) 0 t.rows.toNat++
  bL (fun i=>lnW iK [aC (t.trk.kg i),aC (t.trk.kd i),onW (t.trk.ko i)]) 0 t.kinds.length)++
  (bL (fun i=>lnW gK [aC (t.trk.lx i),aC (t.trk.ly i)]) 0 t.line.length++
  bL (fun i=>lnW fP (cY (t.trk.rx i) (t.trk.ry i) 0 (t.trk.rn i))) 0 t.rails.length++
  bL (fun i=>lnW gS [aC (t.trk.ax i),aC (t.trk.ay i),aC (t.trk.bx i),aC (t.trk.sb i),gI (t.trk.sp i)]) 0 t.gates.length++
  lnW gC [aC t.start.1,aC t.start.2,aH t.head]++lnW m9 [aH t.laps])=_
 rw [e1,e2,e3,e4,e5,e6]
 unfold sT F4 E4
 simp only [rL,LU,bo,cm]
theorem jA{w:List Int}{r:List (List Int)}(h:w≠[]/\dF w)(hr: ∀x,x∈r->x≠[]/\dF x):ML (w,r):=⟨h,hr⟩
theorem rD : ∀x,x∈([]:List (List Int))->x≠[]/\dF x:=fun _ h=>by cases h
theorem fM{x:List Int}{r:List (List Int)}(h:x≠[]/\dF x)(hr: ∀y,y∈r->y≠[]/\dF y): ∀y,y∈x::r->y≠[]/\dF y:=fun y hy=>by
 rcases cb.1 hy with rfl|hy
 ·exact h
 ·exact hr y hy
theorem xC(n:Int):aC n≠[]/\dF (aC n):=⟨aC6 n,SZ n⟩
theorem aAD(n:Int):aH n≠[]/\dF (aH n):=⟨aBc n,NP n⟩
theorem aLZ(z:Bool):onW z≠[]/\dF (onW z):=by unfold dF;cases z<;>decide
theorem aLN(z:Bool):gI z≠[]/\dF (gI z):=by unfold dF;cases z<;>decide
theorem aHU(f:Nat->Int)(a n:Nat): ∀x,x∈dX f a n->x≠[]/\dF x:=fun x hx=>by
 obtain ⟨i,_,rfl⟩:=fa.1 hx
 exact xC _
theorem aGt(f:Nat->Int)(a n:Nat): ∀x,x∈eZ f a n->x≠[]/\dF x:=fun x hx=>by
 obtain ⟨i,_,rfl⟩:=fa.1 hx
 exact aAD _
theorem IP(x y:Nat->Int): ∀(n a:Nat),∀z,z∈cY x y a n->z≠[]/\dF z
 |0,_=>rD
 |n+1,a=>fM (xC _) (fM (xC _) (IP x y n (a+1)))
theorem NG(t:TL): ∀l,l∈sT t->ML l:=fun l hl=>by
 unfold sT F4 E4 at hl
 simp only [cb,ct,fa,cq,fy] at hl
 rcases hl with rfl|rfl|rfl|rfl|hl|hl|hl|hl|hl|hl|rfl|rfl
 ·exact jA (by unfold dF;decide) (fM (aAD _) rD)
 ·exact jA (by unfold dF;decide) (fM (xC _) rD)
 ·exact jA (by unfold dF;decide) (fM (aAD _) (fM (aAD _) rD))
 ·exact jA (by unfold dF;decide) (fM (xC _) (fM (xC _) rD))
 ·obtain ⟨i,_,rfl⟩:=mT hl;exact jA (by unfold dF;decide) (aHU _ _ _)
 ·obtain ⟨i,_,rfl⟩:=mT hl;exact jA (by unfold dF;decide) (aGt _ _ _)
 ·obtain ⟨x,_,rfl⟩:=hl;exact jA (by unfold dF;decide) (fM (xC _) (fM (xC _) (fM (aLZ _) rD)))
 ·obtain ⟨x,_,rfl⟩:=hl;exact jA (by unfold dF;decide) (fM (xC _) (fM (xC _) rD))
 ·obtain ⟨x,_,rfl⟩:=hl;exact jA (by unfold dF;decide) (IP _ _ _ _)
 ·obtain ⟨x,_,rfl⟩:=hl;exact jA (by unfold dF;decide) (fM (xC _) (fM (xC _) (fM (xC _) (fM (xC _) (fM (aLN _) rD)))))
 ·exact jA (by unfold dF;decide) (fM (xC _) (fM (xC _) (fM (aAD _) rD)))
 ·exact jA (by unfold dF;decide) (fM (aAD _) rD)
theorem EV{α:Type}{w v:List Int}{piece:α->List (List Int)}{ls:List Ln}(hw:(ba w==ba v)=false)(h: ∀b,AtQ ls b->iE b (ba v)=false)(xs:List α): ∀b,AtQ (xs.map (fun x=>(w,piece x))++ls) b->iE b (ba v)=false:=fun b hb=>by
 cases xs with
 |nil=>exact h b hb
 |cons x xs=>exact M9 hb hw
theorem aCS{t:TL}(h:aLM t)(hr:(cG t.trk).1=0):sA (xA t.trk)=(t,0,0):=by
 have hc:=h.cols
 have hro:=h.rows
 have n1:=h.nh
 have n2:=h.ng
 have w: ∀x:Int,-10000<=x->x<=10000->IntKind.i64.wrap x=x:=fun x _ _=>by rw [IntKind.wrap_i64];omega
 have m1:=A2 (a:=t.cols+1) (b:=t.rows+1) (N:=65) (M:=65) (by omega) (by omega) (by omega) (by omega)
 have m2:=A2 (a:=t.cols) (b:=t.rows) (N:=64) (M:=64) (by omega) (by omega) (by omega) (by omega)
 unfold nHs at n1
 unfold nGs at n2
 rw [w (t.cols+1) (by omega) (by omega),w (t.rows+1) (by omega) (by omega),w ((t.cols+1)*(t.rows+1)) (by omega) (by omega),fz,Int.toNat_mul (by omega) (by omega)] at n1
 rw [w (t.cols*t.rows) (by omega) (by omega),fz,Int.toNat_mul (by omega) (by omega)] at n2
 have hh: ∀j,cJ (t.trk.h j):=fun j=>by
  show cJ (t.heights.getD j 0)
  by_cases hj:j<t.heights.length
  ·exact h.heights _ (yL hj)
  ·rw [bc,dy (by omega)];exact ⟨by decide,by decide⟩
 have hg: ∀j,0<=t.trk.g j/\t.trk.g j<=7:=fun j=>by
  show 0<=t.ground.getD j 0/\t.ground.getD j 0<=7
  by_cases hj:j<t.ground.length
  ·exact h.ground _ (yL hj)
  ·rw [bc,dy (by omega)];exact ⟨by decide,by decide⟩
 have h0:AtQ (sT t) (lX (xA t.trk)):=by rw [DI];exact aGp (NG t)
 unfold sA
 generalize lX (xA t.trk)=b0 at*
 generalize uO (xA t.trk)=all at*
 have hrt:=h.rate
 obtain ⟨a1,h1⟩:=HV h0 (lo:=60) (hi:=1024) (by omega) (by omega) hrt.1 hrt.2 all
 obtain ⟨a2,h2⟩:=aAq h1 h.cell all
 obtain ⟨a3,h3⟩:=aAy h2 h.cols h.rows all
 obtain ⟨a4,h4⟩:=KU h3 h.corner all
 obtain ⟨a5,h5⟩:=AK (f:=oQ all (t.cols+1).toNat) (line:=hLn t) (val:=fun i=>(List.range' (i*(t.cols+1).toNat) (t.cols+1).toNat).map t.trk.h) (t.rows+1).toNat _ _ (fun i _ ls b hb=>aCr hb hh all) h4
 obtain ⟨a6,h6⟩:=AK (f:=s9 all t.cols.toNat) (line:=oLn t) (val:=fun i=>(List.range' (i*t.cols.toNat) t.cols.toNat).map t.trk.g) t.rows.toNat _ _ (fun i _ ls b hb=>aD7 hb hg all) h5
 rw [VP,n1] at a5
 rw [VP,n2] at a6
 rw [show lst t.trk.h t.heights.length=t.heights from oN t.heights 0] at a5
 rw [show lst t.trk.g t.ground.length=t.ground from oN t.ground 0] at a6
 have hnE: ∀v,(ba gC==ba v)=false-> ∀b,AtQ (E4 t) b->iE b (ba v)=false:=fun v hv b hb=>M9 hb hv
 have hnG: ∀v,(ba gC==ba v)=false->(ba gS==ba v)=false-> ∀b,AtQ (t.gates.map (fun x=>(gS,gLn x))++E4 t) b->iE b (ba v)=false:=fun v hv hv2=>EV hv2 (hnE v hv) _
 have hnR: ∀v,(ba gC==ba v)=false->(ba gS==ba v)=false->(ba fP==ba v)=false-> ∀b,AtQ (t.rails.map (fun x=>(fP,rLn x))++(t.gates.map (fun x=>(gS,gLn x))++E4 t)) b->iE b (ba v)=false:=fun v hv hv2 hv3=>EV hv3 (hnG v hv hv2) _
 have hnP: ∀v,(ba gC==ba v)=false->(ba gS==ba v)=false->(ba fP==ba v)=false->(ba gK==ba v)=false-> ∀b,AtQ (F4 t) b->iE b (ba v)=false:=fun v hv hv2 hv3 hv4=>EV hv4 (hnR v hv hv2 hv3) _
 obtain ⟨a7,h7⟩:=rX (w:=iK) (one:=j0 all) (piece:=kLn) t.kinds 8 [] _ (by have:=h.kinds.2.1;omega) (fun _=>hnP iK (by decide+kernel) (by decide+kernel) (by decide+kernel) (by decide+kernel)) (fun x hx ls b hb=>U8 hb (h.kinds.2.2 x hx) all) h6
 obtain ⟨a8,h8⟩:=rX (w:=gK) (one:=iJ all) (piece:=pLn) t.line 64 [] _ (by have:=h.line.2.1;omega) (fun _=>hnR gK (by decide+kernel) (by decide+kernel) (by decide+kernel)) (fun x hx ls b hb=>P3 hb (h.line.2.2 x hx) all) h7
 obtain ⟨a9,h9⟩:=rX (w:=fP) (one:=iF all) (piece:=rLn) t.rails 16 [] _ (by have:=h.rails.2.1;omega) (fun _=>hnG fP (by decide+kernel) (by decide+kernel)) (fun x hx ls b hb=>VE hb ⟨(h.rails.2.2 x hx).1,(h.rails.2.2 x hx).2.1⟩ (h.rails.2.2 x hx).2.2 all) h8
 obtain ⟨b1,k1⟩:=rX (w:=gS) (one:=kU all) (piece:=gLn) t.gates 16 [] _ (by have:=h.gates.2.1;omega) (fun _=>hnE gS (by decide+kernel)) (fun x hx ls b hb=>R3 hb (h.gates.2.2 x hx) all) h9
 obtain ⟨b2,k2⟩:=N2 k1 h.start h.head all
 have hlp:=h.laps
 obtain ⟨b3,k3⟩:=HV k2 (lo:=1) (hi:=100) (by omega) (by omega) hlp.1 hlp.2 all
 rw [dj] at a7 a8 a9 b1
 have eg:jZ all b0=(⟨t.rate,t.cell,t.cols,t.rows,t.corner,t.heights,t.ground,t.kinds,[],[],[],(0,0),0,0⟩,(dW (ba iK) (j0 all) 8 ([],(fO (s9 all t.cols.toNat) t.rows.toNat (fO (oQ all (t.cols+1).toNat) (t.rows+1).toNat (tD all (zN all (TA all (ba n9) (K0 all (ba oE) 60 1024 b0).2).2).2).2).2).2)).2):=by
  unfold jZ
  simp only [a1,a2,a3,a4,a5,a6,a7]
 have er:(kY all b0).1=t/\AtQ [] (kY all b0).2:=by
  unfold kY
  rw [eg]
  unfold PA
  simp only [a8,a9,b1,b2,b3]
  exact ⟨trivial,k3⟩
 obtain ⟨e1,⟨k,hq⟩,he,hp⟩:=er
 have ez:LS (kY all b0).2=0:=by unfold LS;rw [he,hq];rfl
 rw [ez,e1,hr];rfl
theorem NB : ∀{ls:List Ln},(∀l,l∈ls->bH l.1/\cW l.2)->bH (rL ls)
 | [],_=>fun x hx=>by cases hx
 |l::r,h=>fun x hx=>by
  obtain ⟨h1,h2⟩:=h l (bq ..)
  rcases ct.1 hx with hx|hx
  ·unfold lnW at hx
   rcases ct.1 hx with hx|hx
   ·rcases ct.1 hx with hx|hx
    ·exact h1 x hx
    ·exact (C1 h2).1 x hx
   ·rw [aq.1 hx];decide
  ·exact NB (fun y hy=>h y (bm _ hy)) x hx
theorem RW(t:TL): ∀l,l∈sT t->bH l.1/\cW l.2:=fun l hl=>by
 unfold sT F4 E4 at hl
 simp only [cb,ct,fa,cq,fy] at hl
 rcases hl with rfl|rfl|rfl|rfl|hl|hl|hl|hl|hl|hl|rfl|rfl
 ·exact ⟨(bD rfl).1,aJ (sI _) cN⟩
 ·exact ⟨(bD rfl).1,aJ (eB _) cN⟩
 ·exact ⟨(bD rfl).1,aJ (sI _) (aJ (sI _) cN)⟩
 ·exact ⟨(bD rfl).1,aJ (eB _) (aJ (eB _) cN)⟩
 ·obtain ⟨i,_,rfl⟩:=mT hl;exact ⟨(bD rfl).1,vV _ _ _⟩
 ·obtain ⟨i,_,rfl⟩:=mT hl;exact ⟨(bD rfl).1,vX _ _ _⟩
 ·obtain ⟨x,_,rfl⟩:=hl;exact ⟨(bD rfl).1,aJ (eB _) (aJ (eB _) (aJ (RG _) cN))⟩
 ·obtain ⟨x,_,rfl⟩:=hl;exact ⟨(bD rfl).1,aJ (eB _) (aJ (eB _) cN)⟩
 ·obtain ⟨x,_,rfl⟩:=hl;exact ⟨(bD rfl).1,lQ _ _ _ _⟩
 ·obtain ⟨x,_,rfl⟩:=hl;exact ⟨(bD rfl).1,aJ (eB _) (aJ (eB _) (aJ (eB _) (aJ (eB _) (aJ (JH _) cN))))⟩
 ·exact ⟨(bD rfl).1,aJ (eB _) (aJ (eB _) (aJ (sI _) cN))⟩
 ·exact ⟨(bD rfl).1,aJ (sI _) cN⟩
theorem YZ(t:TL):aD (bytesOf (xA t.trk))=xA t.trk:=by
 rw [DI];exact cX (NB (RW t))
theorem qO{f:Nat->List Int}{B:Nat}: ∀(n a:Nat),(∀i,a<=i->i<a+n->(f i).length<=B)->(bL f a n).length<=n*B
 |0,_,_=>cn _
 |n+1,a,h=>by
  show (f a++bL f (a+1) n).length<=(n+1)*B
  have h1:=qO n (a+1) fun i h1 h2=>h i (by omega) (by omega)
  have h2:=h a (av _) (by omega)
  rw [au,bp,cj];omega
theorem aEd{t:Trk}(h:PM t):(xA t).length<=1000000:=by
 have h0:=vR h.gd
 have n1:=h.nl
 have n2:=h.nr
 have n3:=h.nt
 have h1:=qO (f:=LT t) (B:=300) t.nl 0 fun i _ _=>by
  have:=gH (w:=gK) (aJ (eB (t.lx i)) (aJ (eB (t.ly i)) cN))
  rw [show gK.length=5 from rfl] at this
  simp only [az,bw] at this
  unfold LT;omega
 have h2:=qO (f:=FG t) (B:=6000) t.nr 0 fun i _ hi=>by
  have:=gH (w:=fP) (lQ (t.rx i) (t.ry i) (t.rn i) 0)
  rw [eU,show fP.length=4 from rfl] at this
  have:=(h.rn i (by omega)).2
  unfold FG;omega
 have h3:=qO (f:=x9 t) (B:=300) t.nt 0 fun i _ _=>by
  have:=gH (w:=gS) (aJ (eB (t.ax i)) (aJ (eB (t.ay i)) (aJ (eB (t.bx i)) (aJ (eB (t.sb i)) (aJ (JH (t.sp i)) cN)))))
  rw [show gS.length=4 from rfl] at this
  simp only [az,bw] at this
  unfold x9;omega
 have h4:=gH (w:=gC) (aJ (eB t.sx) (aJ (eB t.sy) (aJ (sI t.head) cN)))
 have h5:=gH (w:=m9) (aJ (sI t.laps) cN)
 rw [show gC.length=5 from rfl] at h4
 rw [show m9.length=4 from rfl] at h5
 simp only [az,bw] at h4 h5
 unfold xA
 rw [DY]
 simp only [au];omega
structure aM1 (b:Bk):Prop where
 last:0<=b.last
 place:0<=b.place
 q: ∀x,x∈b.q->0<=x.1
end Go.Se
namespace Go.Proofs.YtghnfjfkjhbgdaaGreatDoor
open Go.Se
set_option maxRecDepth 100000
theorem aHV(K:KC):kC 40 t0 6 30 [] [] K=
 (K (SV.agg [SV.int .i64 64,SV.int .i64 68719476736,SV.int .i64 4,SV.int .i64 4,SV.int .i64 0,SV.int .i64 0,SV.own 0 0 1 25,SV.own 1 0 1 16,SV.arr 2 0 2 2,SV.arr 3 0 4 4,SV.arr 4 0 2 2,SV.arr 7 0 3 3,SV.int .i64 137438953472,SV.int .i64 42949672960,SV.int .u32 0,SV.int .i64 2]) [some (SB.lst 22 [SV.int .i64 0,SV.int .i64 0,SV.int .i64 0,SV.int .i64 0,SV.int .i64 0,SV.int .i64 0,SV.int .i64 0,SV.int .i64 0,SV.int .i64 0,SV.int .i64 0,SV.int .i64 0,SV.int .i64 0,SV.int .i64 0,SV.int .i64 0,SV.int .i64 0,SV.int .i64 0,SV.int .i64 0,SV.int .i64 0,SV.int .i64 0,SV.int .i64 0,SV.int .i64 0,SV.int .i64 0,SV.int .i64 0,SV.int .i64 0,SV.int .i64 0]),some (SB.lst 3 [SV.int .i64 0,SV.int .i64 0,SV.int .i64 0,SV.int .i64 0,SV.int .i64 0,SV.int .i64 1,SV.int .i64 1,SV.int .i64 0,SV.int .i64 0,SV.int .i64 1,SV.int .i64 1,SV.int .i64 0,SV.int .i64 0,SV.int .i64 0,SV.int .i64 0,SV.int .i64 0]),some (SB.cells 107 [SV.int .i64 4294967296,SV.int .i64 67108864,SV.bool false,SV.int .i64 2147483648,SV.int .i64 536870912,SV.bool true]),some (SB.cells 24 [SV.int .i64 42949672960,SV.int .i64 42949672960,SV.int .i64 231928233984,SV.int .i64 42949672960,SV.int .i64 231928233984,SV.int .i64 231928233984,SV.int .i64 42949672960,SV.int .i64 231928233984]),some (SB.cells 28 [SV.arr 5 0 5 5,SV.arr 6 0 5 5]),some (SB.cells 24 [SV.int .i64 8589934592,SV.int .i64 8589934592,SV.int .i64 266287972352,SV.int .i64 8589934592,SV.int .i64 266287972352,SV.int .i64 266287972352,SV.int .i64 8589934592,SV.int .i64 266287972352,SV.int .i64 8589934592,SV.int .i64 8589934592]),some (SB.cells 24 [SV.int .i64 103079215104,SV.int .i64 103079215104,SV.int .i64 103079215104,SV.int .i64 171798691840,SV.int .i64 171798691840,SV.int .i64 171798691840,SV.int .i64 171798691840,SV.int .i64 103079215104,SV.int .i64 103079215104,SV.int .i64 103079215104]),some (SB.cells 57 [SV.int .i64 154618822656,SV.int .i64 103079215104,SV.int .i64 154618822656,SV.int .i64 8589934592,SV.bool false,SV.int .i64 171798691840,SV.int .i64 154618822656,SV.int .i64 266287972352,SV.int .i64 154618822656,SV.bool true,SV.int .i64 120259084288,SV.int .i64 171798691840,SV.int .i64 120259084288,SV.int .i64 266287972352,SV.bool false])] []):=by kernel_rfl
def uG :TL:=⟨64,68719476736,4,4,(0,0),[0,0,0,0,0,0,0,0,0,0,0,0,0,0,0,0,0,0,0,0,0,0,0,0,0],[0,0,0,0,0,1,1,0,0,1,1,0,0,0,0,0],[(4294967296,67108864,false),(2147483648,536870912,true)],[(42949672960,42949672960),(231928233984,42949672960),(231928233984,231928233984),(42949672960,231928233984)],[[(8589934592,8589934592),(266287972352,8589934592),(266287972352,266287972352),(8589934592,266287972352),(8589934592,8589934592)],[(103079215104,103079215104),(103079215104,171798691840),(171798691840,171798691840),(171798691840,103079215104),(103079215104,103079215104)]],[(154618822656,103079215104,154618822656,8589934592,false),(171798691840,154618822656,266287972352,154618822656,true),(120259084288,171798691840,120259084288,266287972352,false)],(137438953472,42949672960),0,2⟩
def aH2 :SV:= .agg [SV.int .i64 64,SV.int .i64 68719476736,SV.int .i64 4,SV.int .i64 4,SV.int .i64 0,SV.int .i64 0,SV.own 0 0 1 25,SV.own 1 0 1 16,SV.arr 2 0 2 2,SV.arr 3 0 4 4,SV.arr 4 0 2 2,SV.arr 7 0 3 3,SV.int .i64 137438953472,SV.int .i64 42949672960,SV.int .u32 0,SV.int .i64 2]
def aH4 :List (Option SB):=[some (SB.lst 22 [SV.int .i64 0,SV.int .i64 0,SV.int .i64 0,SV.int .i64 0,SV.int .i64 0,SV.int .i64 0,SV.int .i64 0,SV.int .i64 0,SV.int .i64 0,SV.int .i64 0,SV.int .i64 0,SV.int .i64 0,SV.int .i64 0,SV.int .i64 0,SV.int .i64 0,SV.int .i64 0,SV.int .i64 0,SV.int .i64 0,SV.int .i64 0,SV.int .i64 0,SV.int .i64 0,SV.int .i64 0,SV.int .i64 0,SV.int .i64 0,SV.int .i64 0]),some (SB.lst 3 [SV.int .i64 0,SV.int .i64 0,SV.int .i64 0,SV.int .i64 0,SV.int .i64 0,SV.int .i64 1,SV.int .i64 1,SV.int .i64 0,SV.int .i64 0,SV.int .i64 1,SV.int .i64 1,SV.int .i64 0,SV.int .i64 0,SV.int .i64 0,SV.int .i64 0,SV.int .i64 0]),some (SB.cells 107 [SV.int .i64 4294967296,SV.int .i64 67108864,SV.bool false,SV.int .i64 2147483648,SV.int .i64 536870912,SV.bool true]),some (SB.cells 24 [SV.int .i64 42949672960,SV.int .i64 42949672960,SV.int .i64 231928233984,SV.int .i64 42949672960,SV.int .i64 231928233984,SV.int .i64 231928233984,SV.int .i64 42949672960,SV.int .i64 231928233984]),some (SB.cells 28 [SV.arr 5 0 5 5,SV.arr 6 0 5 5]),some (SB.cells 24 [SV.int .i64 8589934592,SV.int .i64 8589934592,SV.int .i64 266287972352,SV.int .i64 8589934592,SV.int .i64 266287972352,SV.int .i64 266287972352,SV.int .i64 8589934592,SV.int .i64 266287972352,SV.int .i64 8589934592,SV.int .i64 8589934592]),some (SB.cells 24 [SV.int .i64 103079215104,SV.int .i64 103079215104,SV.int .i64 103079215104,SV.int .i64 171798691840,SV.int .i64 171798691840,SV.int .i64 171798691840,SV.int .i64 171798691840,SV.int .i64 103079215104,SV.int .i64 103079215104,SV.int .i64 103079215104]),some (SB.cells 57 [SV.int .i64 154618822656,SV.int .i64 103079215104,SV.int .i64 154618822656,SV.int .i64 8589934592,SV.bool false,SV.int .i64 171798691840,SV.int .i64 154618822656,SV.int .i64 266287972352,SV.int .i64 154618822656,SV.bool true,SV.int .i64 120259084288,SV.int .i64 171798691840,SV.int .i64 120259084288,SV.int .i64 266287972352,SV.bool false])]
theorem pV{α:Type}{g g':Nat->α}{n:Nat}(h:(List.range n).map g=(List.range n).map g'): ∀i,i<n->g i=g' i:=fun i hi=>by
 have:=congrArg (fun l=>l[i]?) h
 simp only [fm,List.getElem?_range hi,dq,an] at this
 exact this
theorem aDX{ρ:aL}{T:Nat->Prop}{w:World}{x:Value}(h:rel ρ T w (frz 6 aH4 aH2) x):rel ρ T w (.agg (aI uG.trk)) x:=by
 obtain ⟨a,rfl,v1,l1,z1,q1,v2,l2,z2,q2,v3,l3,z3,q3,v4,l4,z4,q4,v5,l5,z5,q5,v6,l6,z6,q6,v7,l7,z7,q7,v8,l8,z8,q8,v9,l9,z9,q9,v10,l10,z10,q10,v11,l11,z11,q11,v12,l12,z12,q12,v13,l13,z13,q13,v14,l14,z14,q14,v15,l15,z15,q15,v16,l16,z16,q16,q17⟩:=h
 refine ⟨a,rfl,v1,l1,z1,q1,v2,l2,z2,q2,v3,l3,z3,q3,v4,l4,z4,q4,v5,l5,z5,q5,v6,l6,z6,q6,v7,l7,z7,BW rfl (pV (by kernel_rfl)) q7,v8,l8,z8,BW rfl (pV (by kernel_rfl)) q8,v9,l9,z9,BW rfl (pV (by kernel_rfl)) q9,v10,l10,z10,BW rfl (pV (by kernel_rfl)) q10,v11,l11,z11,I0 rfl (fun i hi b o hb=> ?_) q11,v12,l12,z12,BW rfl (pV (by kernel_rfl)) q12,v13,l13,z13,q13,v14,l14,z14,q14,v15,l15,z15,q15,v16,l16,z16,q16,q17⟩
 match i,hi with
 |0,_=>
  obtain ⟨⟨x,hx,hr⟩,hb2⟩:=hb
  exact ⟨⟨x,hx,BW rfl (pV (by kernel_rfl)) hr⟩,hb2⟩
 |1,_=>
  obtain ⟨⟨x,hx,hr⟩,hb2⟩:=hb
  exact ⟨⟨x,hx,BW rfl (pV (by kernel_rfl)) hr⟩,hb2⟩
theorem aGR :aE Tryz.prog 30 [] [] (.agg (aI uG.trk)) [] []:=
 sY (fun _ _ _ _ h=>aDX h) (HD 6 (v:=aH2) (σ':=aH4) (dT 40 t0 6 fun _ _ K hK=>by rw [aHV];exact hK))
theorem yA :cG uG.trk=(0,0):=by kernel_rfl
def MY(t:Trk):List SV->List (Option SB)->Out
 | [],[]=>some (.agg (aI t),[],[])
 |_,_=>none
theorem aEs(xs:List SV)(σ:List (Option SB)):Sat Tryz.prog 30 xs σ (one (MY uG.trk) xs σ):=
 aT (fun xs σ v σ' d h=>by
  unfold MY at h
  split at h
  ·cases h;exact aGR
  ·cases h) xs σ
noncomputable def oc(t:Trk)(h: ∀xs σ,Sat Tryz.prog 30 xs σ (one (MY t) xs σ)):bT Tryz.prog:=ob.add 30 (one (MY t)) h
theorem SO(t:Trk)(h: ∀xs σ,Sat Tryz.prog 30 xs σ (one (MY t) xs σ))(K:KC):run (oc t h) 2 10 [] [] K=
 (∃(e400:Trk),((aI t)=aI e400/\g8 e400)/\(((kB e400).size<=1048576)/\(∀(t397:TL),∀(e396:Int),∀(a395:Int),∀(_:aG2 (aD (kB e400)) t397 e396 a395),(0<=1048576)/\(∀(t392:TL),∀(e391:Int),∀(a390:Int),∀(_:aG2 (aD (⟨#[]⟩:ByteArray)) t392 e391 a390),Br ((cG e400).fst==0) (Br (e396==0) ((iX (aP t397.trk.h) (aP t397.trk.g) (fH t397.trk) (bA t397.trk.lx t397.trk.ly) (bN t397.trk) (fB t397.trk))/\((iX (aP t.h) (aP t.g) (fH t) (bA t.lx t.ly) (bN t) (fB t))/\((xF (mZ t397.trk.rate t397.trk.cell t397.trk.cols t397.trk.rows t397.trk.cx t397.trk.cy t397.trk.nh (aP t397.trk.h) t397.trk.ng (aP t397.trk.g) t397.trk.nk (fH t397.trk) t397.trk.nl (bA t397.trk.lx t397.trk.ly) t397.trk.nr (bN t397.trk) t397.trk.nt (fB t397.trk) t397.trk.sx t397.trk.sy t397.trk.head t397.trk.laps) t)/\(Br (e391==20) (K (SV.bool (a390==1)) [] []) (K (SV.bool false) [] []))))) (K (SV.bool false) [] [])) (K (SV.bool false) [] []))))):=by kernel_rfl
theorem XB :EP uG.trk where
 cell:=⟨by decide,by decide⟩
 corner:=⟨⟨by decide,by decide⟩,⟨by decide,by decide⟩⟩
 h:=by decide+kernel
 k:=by decide+kernel
 l:=by decide+kernel
 r:=by decide+kernel
 g:=by decide+kernel
 s:=⟨⟨by decide,by decide⟩,⟨by decide,by decide⟩⟩
 head:=⟨by decide,by decide⟩
theorem aA9 :sA (xA uG.trk)=(uG,0,0):=by
 have h:=W5 (t:=uG.trk) (by rw [yA]) XB
 rw [aD3] at h
 exact aCS h (by rw [yA])
noncomputable abbrev ocs :bT Tryz.prog:=oc uG.trk aEs
theorem N7{t:Trk}(h:(cG t).1=0):kB t=bytesOf (xA t):=by unfold kB;rw [h];rfl
theorem US{t:Trk}(h:(cG t).1=0)(hi:EP t):(kB t).size<=1048576:=by
 rw [N7 h,aM];have:=aEd (LJ h hi);omega
theorem aDW :sA []=(TL.zero,20,1):=by kernel_rfl
theorem gF :aE Tryz.prog 10 [] [] (.bool true) [] []:=
 aS ocs 2 fun _ _ K hK=>by
  have h0:(cG uG.trk).1=0:=by rw [yA]
  rw [SO]
  refine ⟨uG.trk,⟨rfl,by decide,by decide+kernel⟩,US h0 XB,fun t e a h=>⟨by decide,fun t2 e2 a2 h2=> ?_⟩⟩
  unfold aG2 at h h2
  rw [N7 h0,YZ,aA9] at h
  rw [show aD (⟨#[]⟩:ByteArray)=[] from rfl,aDW] at h2
  cases h;cases h2
  rw [h0]
  exact ⟨fZ _,fZ _,SX uG.trk,hK⟩
def Q1 :List SV->List (Option SB)->Out
 | [],[]=>some (.bool true,[],[])
 |_,_=>none
def zTL(b0 b1 b2 b3 b4 b5 b6 b7 b8 b9:Int):TL:=⟨b0,b1,b2,b3,(b4,b5),[],[],[],[],[],[],(b6,b7),b8,b9⟩
theorem aJ4{t:Trk}{b0 b1 b2 b3 b4 b5 b6 b7 b8 b9:Int}(h:xF t (zTL b0 b1 b2 b3 b4 b5 b6 b7 b8 b9).trk):aE Tryz.prog 13 [.agg (aI t),.agg [.int .i64 b0,.int .i64 b1,.int .i64 b2,.int .i64 b3,.int .i64 b4,.int .i64 b5,.nils,.nils,.nils,.nils,.nils,.nils,.int .i64 b6,.int .i64 b7,.int .u32 b8,.int .i64 b9]] [] (.bool true) [] []:=
 QS (fun ρ T w l hl=>by
  obtain ⟨x,r,e,hx,y,r2,e2,⟨a,rfl,hy⟩,hr⟩:=hl
  refine ⟨x,r,e,hx,_,r2,e2,⟨a,rfl, ?_⟩,hr⟩
  obtain ⟨v1,l1,z1,q1,v2,l2,z2,q2,v3,l3,z3,q3,v4,l4,z4,q4,v5,l5,z5,q5,v6,l6,z6,q6,v7,l7,z7,q7,v8,l8,z8,q8,v9,l9,z9,q9,v10,l10,z10,q10,v11,l11,z11,q11,v12,l12,z12,q12,q13⟩:=hy
  exact ⟨v1,l1,z1,q1,v2,l2,z2,q2,v3,l3,z3,q3,v4,l4,z4,q4,v5,l5,z5,q5,v6,l6,z6,q6,v7,l7,z7,iP q7,v8,l8,z8,iP q8,v9,l9,z9,iP q9,v10,l10,z10,iP q10,v11,l11,z11,iP q11,v12,l12,z12,iP q12,q13⟩) (NR h)
def SQ :List SV->List (Option SB)->KC->Prop
 | [.agg [.int .i64 a0,.int .i64 a1,.int .i64 a2,.int .i64 a3,.int .i64 a4,.int .i64 a5,.ro anh 1 ah,.ro ang 1 ag,.ro ank 3 akg,.ro anl 2 al,.ro anr 1 arl,.ro ant 5 agt,.int .i64 asx,.int .i64 asy,.int .u32 ahd,.int .i64 alp],.agg [.int .i64 b0,.int .i64 b1,.int .i64 b2,.int .i64 b3,.int .i64 b4,.int .i64 b5,.nils,.nils,.nils,.nils,.nils,.nils,.int .i64 b6,.int .i64 b7,.int .u32 b8,.int .i64 b9]],[],K=>iX ah ag akg al arl agt/\xF (mZ a0 a1 a2 a3 a4 a5 anh ah ang ag ank akg anl al anr arl ant agt asx asy ahd alp) (zTL b0 b1 b2 b3 b4 b5 b6 b7 b8 b9).trk/\K (.bool true) [] []
 |xs,σ,K=>yH xs σ K
theorem X5(xs:List SV)(σ:List (Option SB)):Sat Tryz.prog 13 xs σ (SQ xs σ):=by
 intro K hK
 unfold SQ at hK
 split at hK
 ·obtain ⟨h1,h2,hK⟩:=hK
  refine ⟨_,_,_,hK, ?_⟩
  rw [i5 h1]
  exact aJ4 h2
 ·exact IB _ _ K hK
noncomputable def oe :bT Tryz.prog:=((((ob).add 13 SQ X5).add 10 (one Q1) (aT fun xs σ v σ' d h=>by
  unfold Q1 at h;split at h<;>cases h;first|exact gF|exact gF _|exact gF _ _|exact gF _ _ _|exact gF _ _ _ _|exact gF _ _ _ _ _|exact gF _ _ _ _ _ _|exact gF _ _ _ _ _ _ _|exact gF _ _ _ _ _ _ _ _|exact gF _ _ _ _ _ _ _ _ _|exact gF _ _ _ _ _ _ _ _ _ _|exact gF _ _ _ _ _ _ _ _ _ _ _)).add 7 TO aFY).add 14 cRt TR
end Go.Proofs.YtghnfjfkjhbgdaaGreatDoor
namespace Go.Se
def isT(l m:List Int):Prop:=l=m
theorem FV{p:List (List Int)}{i:Nat}(h:i<p.length):eL (p.take (i+1))=eL (p.take i)++(32::p.getD i []):=by
 rw [List.take_add_one,be h]
 show eL (p.take i++[p[i]])=_
 rw [HR,bc,be h]
 show _++(32::(p[i]++[]))=_
 rw [cm];rfl
theorem HH(p:List (List Int)): ∀i,(eL (p.take i)).length<=(eL p).length:=by
 induction p with
 |nil=>intro i;rw [List.take_nil];exact av _
 |cons w r ih=>
  intro i
  cases i with
  |zero=>exact cn _
  |succ i=>
   have:=ih i
   show ((w++eL (r.take i)).length+1)<=(w++eL r).length+1
   rw [au,au];omega
theorem aEw{p:List (List Int)}{i:Nat}(h:i<p.length):(eL (p.take i)).length+(p.getD i []).length+1<=(eL p).length:=by
 have h1:=HH p (i+1)
 rw [FV h,au] at h1
 exact h1
theorem aKb(a:List Int)(b:List Int):bytesOf a++((⟨#[32]⟩:ByteArray)++bytesOf b)=bytesOf (a++(32::b)):=by
 rw [show (⟨#[32]⟩:ByteArray)=bytesOf [32] from rfl,bQ,bQ];rfl
theorem aKh(a:List Int):bytesOf a++(⟨#[10]⟩:ByteArray)=bytesOf (a++[10]):=by
 rw [show (⟨#[10]⟩:ByteArray)=bytesOf [10] from rfl,bQ]
def xyL(x y:Nat->Int):Nat->List Int
 |0=>[]
 |n+1=>xyL x y n++[x n,y n]
theorem C8(x y:Nat->Int): ∀n,(xyL x y n).length=2*n
 |0=>rfl
 |n+1=>by show (xyL x y n++[x n,y n]).length=_;rw [au,C8 x y n];rfl
theorem UE(L:List Int):dX (fun i=>L.getD i 0) 0 L.length=L.map aC:=by
 have:=congrArg (List.map aC) (oN L 0)
 unfold lst at this
 rw [gm] at this
 unfold dX
 rw [<- List.range_eq_range']
 exact this
theorem O9(x y:Nat->Int): ∀n,(xyL x y n).map aC=cY x y 0 n
 |0=>rfl
 |n+1=>by
  rw [pF,bi,<- O9 x y n]
  show (xyL x y n++[x n,y n]).map aC=_
  rw [gf];rfl
def DF(L:List Int):List SV:=L.map fun x=> .int .i64 x
theorem IF : ∀L:List Int,ids.idsL (DF L)=[]
 | []=>rfl
 |_::r=>IF r
theorem XV(L:List Int)(j:Nat)(h:j<L.length):cut (DF L) (j*1) 1=aU cV 0 L j:=by
 rw [eN h]
 unfold cut DF
 rw [Nat.mul_one,dz (by simpa using h)]
 simp [cV]
theorem aAf{ρ:aL}{T:Nat->Prop}{w:World}{e:Nat}{L:List Int}{b n:Nat}(hn:n=L.length)(hr:fV ρ T w (.lst e (DF L)) b):fV ρ T w (.row e 1 n (aU cV 0 L)) b:=by
 subst hn
 exact BB (fun i hi=>XV L i hi) (qB (st:=1) (len:=L.length) (IF L) (by unfold DF;simp) hr)
theorem kV{Q:ByteArray->Prop}{l l' w:List Int}{p:List (List Int)}(h:isT l' (lnW w p))(ho:bO w p)(hl:l.length<=1000000000000)(hQ:lZ (l++l') l w p->Q (bytesOf (l++l'))):
  Br (decide ((bytesOf l).size+(bytesOf l').size<9223372036854775808)) (Q (bytesOf l++bytesOf l')) False:=by
 have hlen:=ho.len
 refine Br.of (fun _=> ?_) fun c=>absurd (ae c) (by rw [aM,aM,h];omega)
 rw [bQ]
 exact hQ (by unfold lZ;rw [h])
theorem W1(x y:Nat->Int)(k:Nat):dX (fun i=>(xyL x y k).getD i 0) 0 (2*k)=cY x y 0 k:=by
 rw [<- C8 x y k,UE,O9]
end Go.Se
