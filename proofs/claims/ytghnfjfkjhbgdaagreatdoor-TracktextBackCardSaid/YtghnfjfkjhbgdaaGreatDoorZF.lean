import Derived.Test.YtghnfjfkjhbgdaaGreatDoorZE
namespace Go.Se
theorem gP{w:List Int}{r:List (List Int)}(h:w≠[]/\cM w)(hr: ∀x,x∈r->x≠[]/\cM x):GO (w,r):=⟨h,hr⟩
theorem oE : ∀x,x∈([]:List (List Int))->x≠[]/\cM x:=fun _ h=>by cases h
theorem dU{x:List Int}{r:List (List Int)}(h:x≠[]/\cM x)(hr: ∀y,y∈r->y≠[]/\cM y): ∀y,y∈x::r->y≠[]/\cM y:=fun y hy=>by
 rcases List.mem_cons.1 hy with rfl|hy
 ·exact h
 ·exact hr y hy
theorem uC(n:Int):aC n≠[]/\cM (aC n):=⟨X0 n,PX n⟩
theorem TN(n:Int):aJ n≠[]/\cM (aJ n):=⟨SS n,KJ n⟩
theorem aFR(z:Bool):onW z≠[]/\cM (onW z):=by unfold cM;cases z<;>decide
theorem aGj(z:Bool):gX z≠[]/\cM (gX z):=by unfold cM;cases z<;>decide
theorem aBt(f:Nat->Int)(a n:Nat): ∀x,x∈fQ f a n->x≠[]/\cM x:=fun x hx=>by
 obtain ⟨i,_,rfl⟩:=List.mem_map.1 hx
 exact uC _
theorem aBj(f:Nat->Int)(a n:Nat): ∀x,x∈fO f a n->x≠[]/\cM x:=fun x hx=>by
 obtain ⟨i,_,rfl⟩:=List.mem_map.1 hx
 exact TN _
theorem F8(x y:Nat->Int): ∀(n a:Nat),∀z,z∈dD x y a n->z≠[]/\cM z
 |0,_=>oE
 |n+1,a=>dU (uC _) (dU (uC _) (F8 x y n (a+1)))
theorem KA(t:TL): ∀l,l∈pM t->GO l:=fun l hl=>by
 unfold pM BE CA at hl
 simp only [List.mem_cons,List.mem_append,List.mem_map,List.not_mem_nil,or_false] at hl
 rcases hl with rfl|rfl|rfl|rfl|hl|hl|hl|hl|hl|hl|rfl|rfl
 ·exact gP (by unfold cM;decide) (dU (TN _) oE)
 ·exact gP (by unfold cM;decide) (dU (uC _) oE)
 ·exact gP (by unfold cM;decide) (dU (TN _) (dU (TN _) oE))
 ·exact gP (by unfold cM;decide) (dU (uC _) (dU (uC _) oE))
 ·obtain ⟨i,_,rfl⟩:=jY hl;exact gP (by unfold cM;decide) (aBt _ _ _)
 ·obtain ⟨i,_,rfl⟩:=jY hl;exact gP (by unfold cM;decide) (aBj _ _ _)
 ·obtain ⟨x,_,rfl⟩:=hl;exact gP (by unfold cM;decide) (dU (uC _) (dU (uC _) (dU (aFR _) oE)))
 ·obtain ⟨x,_,rfl⟩:=hl;exact gP (by unfold cM;decide) (dU (uC _) (dU (uC _) oE))
 ·obtain ⟨x,_,rfl⟩:=hl;exact gP (by unfold cM;decide) (F8 _ _ _ _)
 ·obtain ⟨x,_,rfl⟩:=hl;exact gP (by unfold cM;decide) (dU (uC _) (dU (uC _) (dU (uC _) (dU (uC _) (dU (aGj _) oE)))))
 ·exact gP (by unfold cM;decide) (dU (uC _) (dU (uC _) (dU (TN _) oE)))
 ·exact gP (by unfold cM;decide) (dU (TN _) oE)
theorem AV{α:Type}{w v:List Int}{piece:α->List (List Int)}{ls:List Ln}(hw:(ba w==ba v)=false)(h: ∀b,AtQ ls b->fG b (ba v)=false)(xs:List α): ∀b,AtQ (xs.map (fun x=>(w,piece x))++ls) b->fG b (ba v)=false:=fun b hb=>by
 cases xs with
 |nil=>exact h b hb
 |cons x xs=>exact J9 hb hw
theorem JG{t:TL}(h:aF8 t)(hr:(cD t.trk).1=0):pA (vM t.trk)=(t,0,0):=by
 have hc:=h.cols
 have hro:=h.rows
 have n1:=h.nh
 have n2:=h.ng
 have w: ∀x:Int,-10000<=x->x<=10000->IntKind.i64.wrap x=x:=fun x _ _=>by rw [IntKind.wrap_i64];omega
 have m1:=BL (a:=t.cols+1) (b:=t.rows+1) (N:=65) (M:=65) (by omega) (by omega) (by omega) (by omega)
 have m2:=BL (a:=t.cols) (b:=t.rows) (N:=64) (M:=64) (by omega) (by omega) (by omega) (by omega)
 unfold nHs at n1
 unfold nGs at n2
 rw [w (t.cols+1) (by omega) (by omega),w (t.rows+1) (by omega) (by omega),w ((t.cols+1)*(t.rows+1)) (by omega) (by omega),Int.mul_comm,Int.toNat_mul (by omega) (by omega)] at n1
 rw [w (t.cols*t.rows) (by omega) (by omega),Int.mul_comm,Int.toNat_mul (by omega) (by omega)] at n2
 have hh: ∀j,bY (t.trk.h j):=fun j=>by
  show bY (t.heights.getD j 0)
  by_cases hj:j<t.heights.length
  ·exact h.heights _ (wH hj)
  ·rw [List.getD_eq_getElem?_getD,List.getElem?_eq_none (by omega)];exact ⟨by decide,by decide⟩
 have hg: ∀j,0<=t.trk.g j/\t.trk.g j<=7:=fun j=>by
  show 0<=t.ground.getD j 0/\t.ground.getD j 0<=7
  by_cases hj:j<t.ground.length
  ·exact h.ground _ (wH hj)
  ·rw [List.getD_eq_getElem?_getD,List.getElem?_eq_none (by omega)];exact ⟨by decide,by decide⟩
 have h0:AtQ (pM t) (jH (vM t.trk)):=by rw [AR];exact aBs (KA t)
 unfold pA
 generalize jH (vM t.trk)=b0 at*
 generalize rF (vM t.trk)=all at*
 have hrt:=h.rate
 obtain ⟨a1,h1⟩:=GD h0 (lo:=60) (hi:=1024) (by omega) (by omega) hrt.1 hrt.2 all
 obtain ⟨a2,h2⟩:=UU h1 h.cell all
 obtain ⟨a3,h3⟩:=TX h2 h.cols h.rows all
 obtain ⟨a4,h4⟩:=HZ h3 h.corner all
 obtain ⟨a5,h5⟩:=xX (f:=lV all (t.cols+1).toNat) (line:=hLn t) (val:=fun i=>(List.range' (i*(t.cols+1).toNat) (t.cols+1).toNat).map t.trk.h) (t.rows+1).toNat _ _ (fun i _ ls b hb=>YU hb hh all) h4
 obtain ⟨a6,h6⟩:=xX (f:=qP all t.cols.toNat) (line:=oLn t) (val:=fun i=>(List.range' (i*t.cols.toNat) t.cols.toNat).map t.trk.g) t.rows.toNat _ _ (fun i _ ls b hb=>Y3 hb hg all) h5
 rw [PJ,n1] at a5
 rw [PJ,n2] at a6
 rw [show lst t.trk.h t.heights.length=t.heights from mW t.heights 0] at a5
 rw [show lst t.trk.g t.ground.length=t.ground from mW t.ground 0] at a6
 have hnE: ∀v,(ba gW==ba v)=false-> ∀b,AtQ (CA t) b->fG b (ba v)=false:=fun v hv b hb=>J9 hb hv
 have hnG: ∀v,(ba gW==ba v)=false->(ba gA==ba v)=false-> ∀b,AtQ (t.gates.map (fun x=>(gA,gLn x))++CA t) b->fG b (ba v)=false:=fun v hv hv2=>AV hv2 (hnE v hv) _
 have hnR: ∀v,(ba gW==ba v)=false->(ba gA==ba v)=false->(ba eC==ba v)=false-> ∀b,AtQ (t.rails.map (fun x=>(eC,rLn x))++(t.gates.map (fun x=>(gA,gLn x))++CA t)) b->fG b (ba v)=false:=fun v hv hv2 hv3=>AV hv3 (hnG v hv hv2) _
 have hnP: ∀v,(ba gW==ba v)=false->(ba gA==ba v)=false->(ba eC==ba v)=false->(ba fK==ba v)=false-> ∀b,AtQ (BE t) b->fG b (ba v)=false:=fun v hv hv2 hv3 hv4=>AV hv4 (hnR v hv hv2 hv3) _
 obtain ⟨a7,h7⟩:=oX (w:=iK) (one:=g7 all) (piece:=kLn) t.kinds 8 [] _ (by have:=h.kinds.2.1;omega) (fun _=>hnP iK (by decide+kernel) (by decide+kernel) (by decide+kernel) (by decide+kernel)) (fun x hx ls b hb=>MY hb (h.kinds.2.2 x hx) all) h6
 obtain ⟨a8,h8⟩:=oX (w:=fK) (one:=fL all) (piece:=pLn) t.line 64 [] _ (by have:=h.line.2.1;omega) (fun _=>hnR fK (by decide+kernel) (by decide+kernel) (by decide+kernel)) (fun x hx ls b hb=>I3 hb (h.line.2.2 x hx) all) h7
 obtain ⟨a9,h9⟩:=oX (w:=eC) (one:=fI all) (piece:=rLn) t.rails 16 [] _ (by have:=h.rails.2.1;omega) (fun _=>hnG eC (by decide+kernel) (by decide+kernel)) (fun x hx ls b hb=>PD hb ⟨(h.rails.2.2 x hx).1,(h.rails.2.2 x hx).2.1⟩ (h.rails.2.2 x hx).2.2 all) h8
 obtain ⟨b1,k1⟩:=oX (w:=gA) (one:=iW all) (piece:=gLn) t.gates 16 [] _ (by have:=h.gates.2.1;omega) (fun _=>hnE gA (by decide+kernel)) (fun x hx ls b hb=>OO hb (h.gates.2.2 x hx) all) h9
 obtain ⟨b2,k2⟩:=IT k1 h.start h.head all
 have hlp:=h.laps
 obtain ⟨b3,k3⟩:=GD k2 (lo:=1) (hi:=100) (by omega) (by omega) hlp.1 hlp.2 all
 rw [List.nil_append] at a7 a8 a9 b1
 have eg:iA all b0=(⟨t.rate,t.cell,t.cols,t.rows,t.corner,t.heights,t.ground,t.kinds,[],[],[],(0,0),0,0⟩,(cY (ba iK) (g7 all) 8 ([],(dX (qP all t.cols.toNat) t.rows.toNat (dX (lV all (t.cols+1).toNat) (t.rows+1).toNat (qF all (vK all (ND all (ba rK) (IH all (ba rN) 60 1024 b0).2).2).2).2).2).2)).2):=by
  unfold iA
  simp only [a1,a2,a3,a4,a5,a6,a7]
 have er:(i4 all b0).1=t/\AtQ [] (i4 all b0).2:=by
  unfold i4
  rw [eg]
  unfold L6
  simp only [a8,a9,b1,b2,b3]
  exact ⟨trivial,k3⟩
 obtain ⟨e1,⟨k,hq⟩,he,hp⟩:=er
 have ez:G9 (i4 all b0).2=0:=by unfold G9;rw [he,hq];rfl
 rw [ez,e1,hr];rfl
end Go.Se
namespace Go.Se
theorem JX : ∀{ls:List Ln},(∀l,l∈ls->bB l.1/\dW l.2)->bB (oN ls)
 | [],_=>fun x hx=>by cases hx
 |l::r,h=>fun x hx=>by
  obtain ⟨h1,h2⟩:=h l (List.mem_cons_self ..)
  rcases List.mem_append.1 hx with hx|hx
  ·unfold lnW at hx
   rcases List.mem_append.1 hx with hx|hx
   ·rcases List.mem_append.1 hx with hx|hx
    ·exact h1 x hx
    ·exact (zX h2).1 x hx
   ·rw [List.mem_singleton.1 hx];decide
  ·exact JX (fun y hy=>h y (List.mem_cons_of_mem _ hy)) x hx
theorem PE(t:TL): ∀l,l∈pM t->bB l.1/\dW l.2:=fun l hl=>by
 unfold pM BE CA at hl
 simp only [List.mem_cons,List.mem_append,List.mem_map,List.not_mem_nil,or_false] at hl
 rcases hl with rfl|rfl|rfl|rfl|hl|hl|hl|hl|hl|hl|rfl|rfl
 ·exact ⟨(cC rfl).1,aL (u3 _) dR⟩
 ·exact ⟨(cC rfl).1,aL (fA _) dR⟩
 ·exact ⟨(cC rfl).1,aL (u3 _) (aL (u3 _) dR)⟩
 ·exact ⟨(cC rfl).1,aL (fA _) (aL (fA _) dR)⟩
 ·obtain ⟨i,_,rfl⟩:=jY hl;exact ⟨(cC rfl).1,BJ _ _ _⟩
 ·obtain ⟨i,_,rfl⟩:=jY hl;exact ⟨(cC rfl).1,C5 _ _ _⟩
 ·obtain ⟨x,_,rfl⟩:=hl;exact ⟨(cC rfl).1,aL (fA _) (aL (fA _) (aL (aAb _) dR))⟩
 ·obtain ⟨x,_,rfl⟩:=hl;exact ⟨(cC rfl).1,aL (fA _) (aL (fA _) dR)⟩
 ·obtain ⟨x,_,rfl⟩:=hl;exact ⟨(cC rfl).1,m8 _ _ _ _⟩
 ·obtain ⟨x,_,rfl⟩:=hl;exact ⟨(cC rfl).1,aL (fA _) (aL (fA _) (aL (fA _) (aL (fA _) (aL (RO _) dR))))⟩
 ·exact ⟨(cC rfl).1,aL (fA _) (aL (fA _) (aL (u3 _) dR))⟩
 ·exact ⟨(cC rfl).1,aL (u3 _) dR⟩
theorem EY(t:TL):aA (bytesOf (vM t.trk))=vM t.trk:=by
 rw [AR];exact cG (JX (PE t))
theorem nT{f:Nat->List Int}{B:Nat}: ∀(n a:Nat),(∀i,a<=i->i<a+n->(f i).length<=B)->(bK f a n).length<=n*B
 |0,_,_=>Nat.zero_le _
 |n+1,a,h=>by
  show (f a++bK f (a+1) n).length<=(n+1)*B
  have h1:=nT n (a+1) fun i h1 h2=>h i (by omega) (by omega)
  have h2:=h a (Nat.le_refl _) (by omega)
  rw [List.length_append,Nat.add_mul,Nat.one_mul];omega
theorem YB{t:Trk}(h:Y8 t):(vM t).length<=1000000:=by
 have h0:=yF h.gd
 have n1:=h.nl
 have n2:=h.nr
 have n3:=h.nt
 have h1:=nT (f:=H4 t) (B:=300) t.nl 0 fun i _ _=>by
  have:=g9 (w:=fK) (aL (fA (t.lx i)) (aL (fA (t.ly i)) dR))
  rw [show fK.length=5 from rfl] at this
  simp only [List.length_cons,List.length_nil] at this
  unfold H4;omega
 have h2:=nT (f:=GM t) (B:=6000) t.nr 0 fun i _ hi=>by
  have:=g9 (w:=eC) (m8 (t.rx i) (t.ry i) (t.rn i) 0)
  rw [fJ,show eC.length=4 from rfl] at this
  have:=(h.rn i (by omega)).2
  unfold GM;omega
 have h3:=nT (f:=CZ t) (B:=300) t.nt 0 fun i _ _=>by
  have:=g9 (w:=gA) (aL (fA (t.ax i)) (aL (fA (t.ay i)) (aL (fA (t.bx i)) (aL (fA (t.sb i)) (aL (RO (t.sp i)) dR)))))
  rw [show gA.length=4 from rfl] at this
  simp only [List.length_cons,List.length_nil] at this
  unfold CZ;omega
 have h4:=g9 (w:=gW) (aL (fA t.sx) (aL (fA t.sy) (aL (u3 t.head) dR)))
 have h5:=g9 (w:=pB) (aL (u3 t.laps) dR)
 rw [show gW.length=5 from rfl] at h4
 rw [show pB.length=4 from rfl] at h5
 simp only [List.length_cons,List.length_nil] at h4 h5
 unfold vM
 rw [IZ]
 simp only [List.length_append];omega
end Go.Se
namespace Go.Se
structure aGI (b:Bk):Prop where
 last:0<=b.last
 place:0<=b.place
 q: ∀x,x∈b.q->0<=x.1
end Go.Se
namespace Go.Proofs.YtghnfjfkjhbgdaaGreatDoor
open Go.Se
set_option maxRecDepth 100000
theorem aBo(K:KC):n9 40 t0 6 30 [] [] K=
 (K (SV.agg [SV.int .i64 64,SV.int .i64 68719476736,SV.int .i64 4,SV.int .i64 4,SV.int .i64 0,SV.int .i64 0,SV.own 0 0 1 25,SV.own 1 0 1 16,SV.arr 2 0 2 2,SV.arr 3 0 4 4,SV.arr 4 0 2 2,SV.arr 7 0 3 3,SV.int .i64 137438953472,SV.int .i64 42949672960,SV.int .u32 0,SV.int .i64 2]) [some (SB.lst 22 [SV.int .i64 0,SV.int .i64 0,SV.int .i64 0,SV.int .i64 0,SV.int .i64 0,SV.int .i64 0,SV.int .i64 0,SV.int .i64 0,SV.int .i64 0,SV.int .i64 0,SV.int .i64 0,SV.int .i64 0,SV.int .i64 0,SV.int .i64 0,SV.int .i64 0,SV.int .i64 0,SV.int .i64 0,SV.int .i64 0,SV.int .i64 0,SV.int .i64 0,SV.int .i64 0,SV.int .i64 0,SV.int .i64 0,SV.int .i64 0,SV.int .i64 0]),some (SB.lst 3 [SV.int .i64 0,SV.int .i64 0,SV.int .i64 0,SV.int .i64 0,SV.int .i64 0,SV.int .i64 1,SV.int .i64 1,SV.int .i64 0,SV.int .i64 0,SV.int .i64 1,SV.int .i64 1,SV.int .i64 0,SV.int .i64 0,SV.int .i64 0,SV.int .i64 0,SV.int .i64 0]),some (SB.cells 107 [SV.int .i64 4294967296,SV.int .i64 67108864,SV.bool false,SV.int .i64 2147483648,SV.int .i64 536870912,SV.bool true]),some (SB.cells 24 [SV.int .i64 42949672960,SV.int .i64 42949672960,SV.int .i64 231928233984,SV.int .i64 42949672960,SV.int .i64 231928233984,SV.int .i64 231928233984,SV.int .i64 42949672960,SV.int .i64 231928233984]),some (SB.cells 28 [SV.arr 5 0 5 5,SV.arr 6 0 5 5]),some (SB.cells 24 [SV.int .i64 8589934592,SV.int .i64 8589934592,SV.int .i64 266287972352,SV.int .i64 8589934592,SV.int .i64 266287972352,SV.int .i64 266287972352,SV.int .i64 8589934592,SV.int .i64 266287972352,SV.int .i64 8589934592,SV.int .i64 8589934592]),some (SB.cells 24 [SV.int .i64 103079215104,SV.int .i64 103079215104,SV.int .i64 103079215104,SV.int .i64 171798691840,SV.int .i64 171798691840,SV.int .i64 171798691840,SV.int .i64 171798691840,SV.int .i64 103079215104,SV.int .i64 103079215104,SV.int .i64 103079215104]),some (SB.cells 57 [SV.int .i64 154618822656,SV.int .i64 103079215104,SV.int .i64 154618822656,SV.int .i64 8589934592,SV.bool false,SV.int .i64 171798691840,SV.int .i64 154618822656,SV.int .i64 266287972352,SV.int .i64 154618822656,SV.bool true,SV.int .i64 120259084288,SV.int .i64 171798691840,SV.int .i64 120259084288,SV.int .i64 266287972352,SV.bool false])] []):=by kernel_rfl
def qZ :TL:=⟨64,68719476736,4,4,(0,0),[0,0,0,0,0,0,0,0,0,0,0,0,0,0,0,0,0,0,0,0,0,0,0,0,0],[0,0,0,0,0,1,1,0,0,1,1,0,0,0,0,0],[(4294967296,67108864,false),(2147483648,536870912,true)],[(42949672960,42949672960),(231928233984,42949672960),(231928233984,231928233984),(42949672960,231928233984)],[[(8589934592,8589934592),(266287972352,8589934592),(266287972352,266287972352),(8589934592,266287972352),(8589934592,8589934592)],[(103079215104,103079215104),(103079215104,171798691840),(171798691840,171798691840),(171798691840,103079215104),(103079215104,103079215104)]],[(154618822656,103079215104,154618822656,8589934592,false),(171798691840,154618822656,266287972352,154618822656,true),(120259084288,171798691840,120259084288,266287972352,false)],(137438953472,42949672960),0,2⟩
def aDg :SV:= .agg [SV.int .i64 64,SV.int .i64 68719476736,SV.int .i64 4,SV.int .i64 4,SV.int .i64 0,SV.int .i64 0,SV.own 0 0 1 25,SV.own 1 0 1 16,SV.arr 2 0 2 2,SV.arr 3 0 4 4,SV.arr 4 0 2 2,SV.arr 7 0 3 3,SV.int .i64 137438953472,SV.int .i64 42949672960,SV.int .u32 0,SV.int .i64 2]
def aDl :List (Option SB):=[some (SB.lst 22 [SV.int .i64 0,SV.int .i64 0,SV.int .i64 0,SV.int .i64 0,SV.int .i64 0,SV.int .i64 0,SV.int .i64 0,SV.int .i64 0,SV.int .i64 0,SV.int .i64 0,SV.int .i64 0,SV.int .i64 0,SV.int .i64 0,SV.int .i64 0,SV.int .i64 0,SV.int .i64 0,SV.int .i64 0,SV.int .i64 0,SV.int .i64 0,SV.int .i64 0,SV.int .i64 0,SV.int .i64 0,SV.int .i64 0,SV.int .i64 0,SV.int .i64 0]),some (SB.lst 3 [SV.int .i64 0,SV.int .i64 0,SV.int .i64 0,SV.int .i64 0,SV.int .i64 0,SV.int .i64 1,SV.int .i64 1,SV.int .i64 0,SV.int .i64 0,SV.int .i64 1,SV.int .i64 1,SV.int .i64 0,SV.int .i64 0,SV.int .i64 0,SV.int .i64 0,SV.int .i64 0]),some (SB.cells 107 [SV.int .i64 4294967296,SV.int .i64 67108864,SV.bool false,SV.int .i64 2147483648,SV.int .i64 536870912,SV.bool true]),some (SB.cells 24 [SV.int .i64 42949672960,SV.int .i64 42949672960,SV.int .i64 231928233984,SV.int .i64 42949672960,SV.int .i64 231928233984,SV.int .i64 231928233984,SV.int .i64 42949672960,SV.int .i64 231928233984]),some (SB.cells 28 [SV.arr 5 0 5 5,SV.arr 6 0 5 5]),some (SB.cells 24 [SV.int .i64 8589934592,SV.int .i64 8589934592,SV.int .i64 266287972352,SV.int .i64 8589934592,SV.int .i64 266287972352,SV.int .i64 266287972352,SV.int .i64 8589934592,SV.int .i64 266287972352,SV.int .i64 8589934592,SV.int .i64 8589934592]),some (SB.cells 24 [SV.int .i64 103079215104,SV.int .i64 103079215104,SV.int .i64 103079215104,SV.int .i64 171798691840,SV.int .i64 171798691840,SV.int .i64 171798691840,SV.int .i64 171798691840,SV.int .i64 103079215104,SV.int .i64 103079215104,SV.int .i64 103079215104]),some (SB.cells 57 [SV.int .i64 154618822656,SV.int .i64 103079215104,SV.int .i64 154618822656,SV.int .i64 8589934592,SV.bool false,SV.int .i64 171798691840,SV.int .i64 154618822656,SV.int .i64 266287972352,SV.int .i64 154618822656,SV.bool true,SV.int .i64 120259084288,SV.int .i64 171798691840,SV.int .i64 120259084288,SV.int .i64 266287972352,SV.bool false])]
theorem mV{α:Type}{g g':Nat->α}{n:Nat}(h:(List.range n).map g=(List.range n).map g'): ∀i,i<n->g i=g' i:=fun i hi=>by
 have:=congrArg (fun l=>l[i]?) h
 simp only [List.getElem?_map,List.getElem?_range hi,Option.map_some,Option.some.injEq] at this
 exact this
theorem XO{ρ:aG}{T:Nat->Prop}{w:World}{x:Value}(h:rel ρ T w (frz 6 aDl aDg) x):rel ρ T w (.agg (aM qZ.trk)) x:=by
 obtain ⟨a,rfl,v1,l1,z1,q1,v2,l2,z2,q2,v3,l3,z3,q3,v4,l4,z4,q4,v5,l5,z5,q5,v6,l6,z6,q6,v7,l7,z7,q7,v8,l8,z8,q8,v9,l9,z9,q9,v10,l10,z10,q10,v11,l11,z11,q11,v12,l12,z12,q12,v13,l13,z13,q13,v14,l14,z14,q14,v15,l15,z15,q15,v16,l16,z16,q16,q17⟩:=h
 refine ⟨a,rfl,v1,l1,z1,q1,v2,l2,z2,q2,v3,l3,z3,q3,v4,l4,z4,q4,v5,l5,z5,q5,v6,l6,z6,q6,v7,l7,z7,nL rfl (mV (by kernel_rfl)) q7,v8,l8,z8,nL rfl (mV (by kernel_rfl)) q8,v9,l9,z9,nL rfl (mV (by kernel_rfl)) q9,v10,l10,z10,nL rfl (mV (by kernel_rfl)) q10,v11,l11,z11,xR rfl (fun i hi b o hb=> ?_) q11,v12,l12,z12,nL rfl (mV (by kernel_rfl)) q12,v13,l13,z13,q13,v14,l14,z14,q14,v15,l15,z15,q15,v16,l16,z16,q16,q17⟩
 match i,hi with
 |0,_=>
  obtain ⟨⟨x,hx,hr⟩,hb2⟩:=hb
  exact ⟨⟨x,hx,nL rfl (mV (by kernel_rfl)) hr⟩,hb2⟩
 |1,_=>
  obtain ⟨⟨x,hx,hr⟩,hb2⟩:=hb
  exact ⟨⟨x,hx,nL rfl (mV (by kernel_rfl)) hr⟩,hb2⟩
theorem aCu :aD Tryz.prog 30 [] [] (.agg (aM qZ.trk)) [] []:=
 pP (fun _ _ _ _ h=>XO h) (DU 6 (v:=aDg) (σ':=aDl) (jU 40 t0 6 fun _ _ K hK=>by rw [aBo];exact hK))
theorem uQ :cD qZ.trk=(0,0):=by kernel_rfl
def JE(t:Trk):List SV->List (Option SB)->Out
 | [],[]=>some (.agg (aM t),[],[])
 |_,_=>none
theorem XW(xs:List SV)(σ:List (Option SB)):Sat Tryz.prog 30 xs σ (one (JE qZ.trk) xs σ):=
 bD (fun xs σ v σ' d h=>by
  unfold JE at h
  split at h
  ·cases h;exact aCu
  ·cases h) xs σ
noncomputable def oc(t:Trk)(h: ∀xs σ,Sat Tryz.prog 30 xs σ (one (JE t) xs σ)):bT Tryz.prog:=ob.add 30 (one (JE t)) h
theorem NE(t:Trk)(h: ∀xs σ,Sat Tryz.prog 30 xs σ (one (JE t) xs σ))(K:KC):run (oc t h) 2 10 [] [] K=
 (∃(e400:Trk),((aM t)=aM e400/\iJ e400)/\(((gD e400).size<=1048576)/\(∀(t397:TL),∀(e396:Int),∀(a395:Int),∀(_:UJ (aA (gD e400)) t397 e396 a395),(0<=1048576)/\(∀(t392:TL),∀(e391:Int),∀(a390:Int),∀(_:UJ (aA (⟨#[]⟩:ByteArray)) t392 e391 a390),Br ((cD e400).fst==0) (Br (e396==0) ((kE (aP t397.trk.h) (aP t397.trk.g) (eY t397.trk) (bS t397.trk.lx t397.trk.ly) (cH t397.trk) (eV t397.trk))/\((kE (aP t.h) (aP t.g) (eY t) (bS t.lx t.ly) (cH t) (eV t))/\((oZ (mC t397.trk.rate t397.trk.cell t397.trk.cols t397.trk.rows t397.trk.cx t397.trk.cy t397.trk.nh (aP t397.trk.h) t397.trk.ng (aP t397.trk.g) t397.trk.nk (eY t397.trk) t397.trk.nl (bS t397.trk.lx t397.trk.ly) t397.trk.nr (cH t397.trk) t397.trk.nt (eV t397.trk) t397.trk.sx t397.trk.sy t397.trk.head t397.trk.laps) t)/\(Br (e391==20) (K (SV.bool (a390==1)) [] []) (K (SV.bool false) [] []))))) (K (SV.bool false) [] [])) (K (SV.bool false) [] []))))):=by kernel_rfl
theorem RK :FZ qZ.trk where
 cell:=⟨by decide,by decide⟩
 corner:=⟨⟨by decide,by decide⟩,⟨by decide,by decide⟩⟩
 h:=by decide+kernel
 k:=by decide+kernel
 l:=by decide+kernel
 r:=by decide+kernel
 g:=by decide+kernel
 s:=⟨⟨by decide,by decide⟩,⟨by decide,by decide⟩⟩
 head:=⟨by decide,by decide⟩
theorem SZ :pA (vM qZ.trk)=(qZ,0,0):=by
 have h:=HW (t:=qZ.trk) (by rw [uQ]) RK
 rw [IQ] at h
 exact JG h (by rw [uQ])
noncomputable abbrev ocs :bT Tryz.prog:=oc qZ.trk XW
theorem AJ{t:Trk}(h:(cD t).1=0):gD t=bytesOf (vM t):=by unfold gD;rw [h];rfl
theorem AL{t:Trk}(h:(cD t).1=0)(hi:FZ t):(gD t).size<=1048576:=by
 rw [AJ h,aR];have:=YB (RF h hi);omega
theorem WZ :pA []=(TL.zero,20,1):=by kernel_rfl
theorem eE :aD Tryz.prog 10 [] [] (.bool true) [] []:=
 aV ocs 2 fun _ _ K hK=>by
  have h0:(cD qZ.trk).1=0:=by rw [uQ]
  rw [NE]
  refine ⟨qZ.trk,⟨rfl,by decide,by decide+kernel⟩,AL h0 RK,fun t e a h=>⟨by decide,fun t2 e2 a2 h2=> ?_⟩⟩
  unfold UJ at h h2
  rw [AJ h0,EY,SZ] at h
  rw [show aA (⟨#[]⟩:ByteArray)=[] from rfl,WZ] at h2
  cases h;cases h2
  rw [h0]
  exact ⟨fT _,fT _,PI qZ.trk,hK⟩
def MD :List SV->List (Option SB)->Out
 | [],[]=>some (.bool true,[],[])
 |_,_=>none
def zTL(b0 b1 b2 b3 b4 b5 b6 b7 b8 b9:Int):TL:=⟨b0,b1,b2,b3,(b4,b5),[],[],[],[],[],[],(b6,b7),b8,b9⟩
theorem aEd{t:Trk}{b0 b1 b2 b3 b4 b5 b6 b7 b8 b9:Int}(h:oZ t (zTL b0 b1 b2 b3 b4 b5 b6 b7 b8 b9).trk):aD Tryz.prog 13 [.agg (aM t),.agg [.int .i64 b0,.int .i64 b1,.int .i64 b2,.int .i64 b3,.int .i64 b4,.int .i64 b5,.nils,.nils,.nils,.nils,.nils,.nils,.int .i64 b6,.int .i64 b7,.int .u32 b8,.int .i64 b9]] [] (.bool true) [] []:=
 yN (fun ρ T w l hl=>by
  obtain ⟨x,r,e,hx,y,r2,e2,⟨a,rfl,hy⟩,hr⟩:=hl
  refine ⟨x,r,e,hx,_,r2,e2,⟨a,rfl, ?_⟩,hr⟩
  obtain ⟨v1,l1,z1,q1,v2,l2,z2,q2,v3,l3,z3,q3,v4,l4,z4,q4,v5,l5,z5,q5,v6,l6,z6,q6,v7,l7,z7,q7,v8,l8,z8,q8,v9,l9,z9,q9,v10,l10,z10,q10,v11,l11,z11,q11,v12,l12,z12,q12,q13⟩:=hy
  exact ⟨v1,l1,z1,q1,v2,l2,z2,q2,v3,l3,z3,q3,v4,l4,z4,q4,v5,l5,z5,q5,v6,l6,z6,q6,v7,l7,z7,fS q7,v8,l8,z8,fS q8,v9,l9,z9,fS q9,v10,l10,z10,fS q10,v11,l11,z11,fS q11,v12,l12,z12,fS q12,q13⟩) (KM h)
def NT :List SV->List (Option SB)->KC->Prop
 | [.agg [.int .i64 a0,.int .i64 a1,.int .i64 a2,.int .i64 a3,.int .i64 a4,.int .i64 a5,.ro anh 1 ah,.ro ang 1 ag,.ro ank 3 akg,.ro anl 2 al,.ro anr 1 arl,.ro ant 5 agt,.int .i64 asx,.int .i64 asy,.int .u32 ahd,.int .i64 alp],.agg [.int .i64 b0,.int .i64 b1,.int .i64 b2,.int .i64 b3,.int .i64 b4,.int .i64 b5,.nils,.nils,.nils,.nils,.nils,.nils,.int .i64 b6,.int .i64 b7,.int .u32 b8,.int .i64 b9]],[],K=>kE ah ag akg al arl agt/\oZ (mC a0 a1 a2 a3 a4 a5 anh ah ang ag ank akg anl al anr arl ant agt asx asy ahd alp) (zTL b0 b1 b2 b3 b4 b5 b6 b7 b8 b9).trk/\K (.bool true) [] []
 |xs,σ,K=>uN xs σ K
theorem VO(xs:List SV)(σ:List (Option SB)):Sat Tryz.prog 13 xs σ (NT xs σ):=by
 intro K hK
 unfold NT at hK
 split at hK
 ·obtain ⟨h1,h2,hK⟩:=hK
  refine ⟨_,_,_,hK, ?_⟩
  rw [k9 h1]
  exact aEd h2
 ·exact E8 _ _ K hK
noncomputable def oe :bT Tryz.prog:=((((ob).add 13 NT VO).add 10 (one MD) (bD fun xs σ v σ' d h=>by
  unfold MD at h;split at h<;>cases h;first|exact eE|exact eE _|exact eE _ _|exact eE _ _ _|exact eE _ _ _ _|exact eE _ _ _ _ _|exact eE _ _ _ _ _ _|exact eE _ _ _ _ _ _ _|exact eE _ _ _ _ _ _ _ _|exact eE _ _ _ _ _ _ _ _ _|exact eE _ _ _ _ _ _ _ _ _ _|exact eE _ _ _ _ _ _ _ _ _ _ _)).add 7 N3 aB6).add 14 cRt OB
theorem WF(t:Trk)(K:KC):run oe 2 5 [.agg (aM t)] [] K=
 ((kE (aP t.h) (aP t.g) (eY t) (bS t.lx t.ly) (cH t) (eV t))/\(Br (!U0 t) (K (SV.bool true) [] []) (∃(e398:Trk),((aM t)=aM e398/\iJ e398)/\(∃(e396:Trk),((aM t)=aM e396/\iJ e396)/\(Br ((cD e398).fst !=(cD e396).fst) (Br ((cD e398).fst==(cD e396).fst) (Br (gD e398==(⟨#[]⟩:ByteArray)) (K (SV.bool true) [] []) (K (SV.bool false) [] [])) (K (SV.bool false) [] [])) (Br ((cD e398).fst !=0) (Br ((cD e398).fst==(cD e396).fst) (Br (gD e398==(⟨#[]⟩:ByteArray)) (K (SV.bool true) [] []) (K (SV.bool false) [] [])) (K (SV.bool false) [] [])) (((gD e398).size<=1048576)/\(∀(t391:TL),∀(e390:Int),∀(a389:Int),∀(_:UJ (aA (gD e398)) t391 e390 a389),Br (e390==0) (Br (a389==0) ((kE (aP t.h) (aP t.g) (eY t) (bS t.lx t.ly) (cH t) (eV t))/\((kE (aP t391.trk.h) (aP t391.trk.g) (eY t391.trk) (bS t391.trk.lx t391.trk.ly) (cH t391.trk) (eV t391.trk))/\((oZ t (mC t391.trk.rate t391.trk.cell t391.trk.cols t391.trk.rows t391.trk.cx t391.trk.cy t391.trk.nh (aP t391.trk.h) t391.trk.ng (aP t391.trk.g) t391.trk.nk (eY t391.trk) t391.trk.nl (bS t391.trk.lx t391.trk.ly) t391.trk.nr (cH t391.trk) t391.trk.nt (eV t391.trk) t391.trk.sx t391.trk.sy t391.trk.head t391.trk.laps))/\(K (SV.bool true) [] [])))) (K (SV.bool false) [] [])) (K (SV.bool false) [] []))))))))):=by kernel_rfl
theorem U1(t:Trk)(ht:(BW t).trk=t):aD Tryz.prog 5 [.agg (aM t)] [] (.bool true) [] []:=
 aV oe 2 fun hok _ K hK=>by
  rw [WF]
  refine ⟨fT t,Br.of (fun _=>hK) fun c=> ?_⟩
  have hs:=VG (by rw [Bool.not_eq_false'] at c;exact c)
  refine ⟨t,⟨rfl,hs⟩,t,⟨rfl,hs⟩, ?_⟩
  rw [bne_self_eq_false,beq_self_eq_true]
  refine Br.of (fun c=>by cases c) fun _=>Br.of (fun c=> ?_) fun c=> ?_
  ·rw [show gD t=(⟨#[]⟩:ByteArray) by unfold gD;rw [c];rfl]
   exact hK
  ·have h0:(cD t).1=0:=bne_eq_false_iff_eq.1 c
   have hi:=L5 hok.1
   have hk:=HW h0 hi
   refine ⟨AL h0 hi,fun u e a h=> ?_⟩
   unfold UJ at h
   rw [AJ h0,<- ht,EY,JG hk (by rw [ht];exact h0)] at h
   cases h
   exact ⟨fT t,fT _,GJ t,hK⟩
theorem X2(t:Trk):aD Tryz.prog 5 [.agg (aM t)] [] (.bool true) [] []:=
 NW (U1 _ (by rw [IQ]))
end Go.Proofs.YtghnfjfkjhbgdaaGreatDoor
