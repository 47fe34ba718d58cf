import Derived.Test.YtghnfjfkjhbgdaaGreatDoorZE
namespace Go.Se
theorem gL{w:List Int}{r:List (List Int)}(h:w≠[]/\cO w)(hr: ∀x,x∈r->x≠[]/\cO x):GX (w,r):=⟨h,hr⟩
theorem oM : ∀x,x∈([]:List (List Int))->x≠[]/\cO x:=fun _ h=>by cases h
theorem dY{x:List Int}{r:List (List Int)}(h:x≠[]/\cO x)(hr: ∀y,y∈r->y≠[]/\cO y): ∀y,y∈x::r->y≠[]/\cO y:=fun y hy=>by
 rcases List.mem_cons.1 hy with rfl|hy
 ·exact h
 ·exact hr y hy
theorem t8(n:Int):aC n≠[]/\cO (aC n):=⟨ZF n,N2 n⟩
theorem UL(n:Int):aJ n≠[]/\cO (aJ n):=⟨WB n,JF n⟩
theorem aGu(z:Bool):onW z≠[]/\cO (onW z):=by unfold cO;cases z<;>decide
theorem aFR(z:Bool):hC z≠[]/\cO (hC z):=by unfold cO;cases z<;>decide
theorem aC4(f:Nat->Int)(a n:Nat): ∀x,x∈fV f a n->x≠[]/\cO x:=fun x hx=>by
 obtain ⟨i,_,rfl⟩:=List.mem_map.1 hx
 exact t8 _
theorem aBu(f:Nat->Int)(a n:Nat): ∀x,x∈fT f a n->x≠[]/\cO x:=fun x hx=>by
 obtain ⟨i,_,rfl⟩:=List.mem_map.1 hx
 exact UL _
theorem FZ(x y:Nat->Int): ∀(n a:Nat),∀z,z∈dD x y a n->z≠[]/\cO z
 |0,_=>oM
 |n+1,a=>dY (t8 _) (dY (t8 _) (FZ x y n (a+1)))
theorem I7(t:TL): ∀l,l∈pU t->GX l:=fun l hl=>by
 unfold pU DE AZ at hl
 simp only [List.mem_cons,List.mem_append,List.mem_map,List.not_mem_nil,or_false] at hl
 rcases hl with rfl|rfl|rfl|rfl|hl|hl|hl|hl|hl|hl|rfl|rfl
 ·exact gL (by unfold cO;decide) (dY (UL _) oM)
 ·exact gL (by unfold cO;decide) (dY (t8 _) oM)
 ·exact gL (by unfold cO;decide) (dY (UL _) (dY (UL _) oM))
 ·exact gL (by unfold cO;decide) (dY (t8 _) (dY (t8 _) oM))
 ·obtain ⟨i,_,rfl⟩:=kB hl;exact gL (by unfold cO;decide) (aC4 _ _ _)
 ·obtain ⟨i,_,rfl⟩:=kB hl;exact gL (by unfold cO;decide) (aBu _ _ _)
 ·obtain ⟨x,_,rfl⟩:=hl;exact gL (by unfold cO;decide) (dY (t8 _) (dY (t8 _) (dY (aGu _) oM)))
 ·obtain ⟨x,_,rfl⟩:=hl;exact gL (by unfold cO;decide) (dY (t8 _) (dY (t8 _) oM))
 ·obtain ⟨x,_,rfl⟩:=hl;exact gL (by unfold cO;decide) (FZ _ _ _ _)
 ·obtain ⟨x,_,rfl⟩:=hl;exact gL (by unfold cO;decide) (dY (t8 _) (dY (t8 _) (dY (t8 _) (dY (t8 _) (dY (aFR _) oM)))))
 ·exact gL (by unfold cO;decide) (dY (t8 _) (dY (t8 _) (dY (UL _) oM)))
 ·exact gL (by unfold cO;decide) (dY (UL _) oM)
theorem DW{α:Type}{w v:List Int}{piece:α->List (List Int)}{ls:List Ln}(hw:(ba w==ba v)=false)(h: ∀b,AtQ ls b->eY b (ba v)=false)(xs:List α): ∀b,AtQ (xs.map (fun x=>(w,piece x))++ls) b->eY b (ba v)=false:=fun b hb=>by
 cases xs with
 |nil=>exact h b hb
 |cons x xs=>exact JR hb hw
theorem J3{t:TL}(h:aFZ t)(hr:(cG t.trk).1=0):iU (vX t.trk)=(t,0,0):=by
 have hc:=h.cols
 have hro:=h.rows
 have n1:=h.nh
 have n2:=h.ng
 have w: ∀x:Int,-10000<=x->x<=10000->IntKind.i64.wrap x=x:=fun x _ _=>by rw [IntKind.wrap_i64];omega
 have m1:=A9 (a:=t.cols+1) (b:=t.rows+1) (N:=65) (M:=65) (by omega) (by omega) (by omega) (by omega)
 have m2:=A9 (a:=t.cols) (b:=t.rows) (N:=64) (M:=64) (by omega) (by omega) (by omega) (by omega)
 unfold nHs at n1
 unfold nGs at n2
 rw [w (t.cols+1) (by omega) (by omega),w (t.rows+1) (by omega) (by omega),w ((t.cols+1)*(t.rows+1)) (by omega) (by omega),Int.mul_comm,Int.toNat_mul (by omega) (by omega)] at n1
 rw [w (t.cols*t.rows) (by omega) (by omega),Int.mul_comm,Int.toNat_mul (by omega) (by omega)] at n2
 have hh: ∀j,bE (t.trk.h j):=fun j=>by
  show bE (t.heights.getD j 0)
  by_cases hj:j<t.heights.length
  ·exact h.heights _ (kH hj)
  ·rw [List.getD_eq_getElem?_getD,List.getElem?_eq_none (by omega)];exact ⟨by decide,by decide⟩
 have hg: ∀j,0<=t.trk.g j/\t.trk.g j<=7:=fun j=>by
  show 0<=t.ground.getD j 0/\t.ground.getD j 0<=7
  by_cases hj:j<t.ground.length
  ·exact h.ground _ (kH hj)
  ·rw [List.getD_eq_getElem?_getD,List.getElem?_eq_none (by omega)];exact ⟨by decide,by decide⟩
 have h0:AtQ (pU t) (eE (vX t.trk)):=by rw [DD];exact aC2 (I7 t)
 unfold iU
 generalize eE (vX t.trk)=b0 at*
 generalize hJ (vX t.trk)=all at*
 have hrt:=h.rate
 obtain ⟨a1,h1⟩:=GR h0 (lo:=60) (hi:=1024) (by omega) (by omega) hrt.1 hrt.2 all
 obtain ⟨a2,h2⟩:=VC h1 h.cell all
 obtain ⟨a3,h3⟩:=U9 h2 h.cols h.rows all
 obtain ⟨a4,h4⟩:=GW h3 h.corner all
 obtain ⟨a5,h5⟩:=xS (f:=kU all (t.cols+1).toNat) (line:=hLn t) (val:=fun i=>(List.range' (i*(t.cols+1).toNat) (t.cols+1).toNat).map t.trk.h) (t.rows+1).toNat _ _ (fun i _ ls b hb=>XY hb hh all) h4
 obtain ⟨a6,h6⟩:=xS (f:=pG all t.cols.toNat) (line:=oLn t) (val:=fun i=>(List.range' (i*t.cols.toNat) t.cols.toNat).map t.trk.g) t.rows.toNat _ _ (fun i _ ls b hb=>W3 hb hg all) h5
 rw [QA,n1] at a5
 rw [QA,n2] at a6
 rw [show lst t.trk.h t.heights.length=t.heights from mU t.heights 0] at a5
 rw [show lst t.trk.g t.ground.length=t.ground from mU t.ground 0] at a6
 have hnE: ∀v,(ba g8==ba v)=false-> ∀b,AtQ (AZ t) b->eY b (ba v)=false:=fun v hv b hb=>JR hb hv
 have hnG: ∀v,(ba g8==ba v)=false->(ba gD==ba v)=false-> ∀b,AtQ (t.gates.map (fun x=>(gD,gLn x))++AZ t) b->eY b (ba v)=false:=fun v hv hv2=>DW hv2 (hnE v hv) _
 have hnR: ∀v,(ba g8==ba v)=false->(ba gD==ba v)=false->(ba dU==ba v)=false-> ∀b,AtQ (t.rails.map (fun x=>(dU,rLn x))++(t.gates.map (fun x=>(gD,gLn x))++AZ t)) b->eY b (ba v)=false:=fun v hv hv2 hv3=>DW hv3 (hnG v hv hv2) _
 have hnP: ∀v,(ba g8==ba v)=false->(ba gD==ba v)=false->(ba dU==ba v)=false->(ba eZ==ba v)=false-> ∀b,AtQ (DE t) b->eY b (ba v)=false:=fun v hv hv2 hv3 hv4=>DW hv4 (hnR v hv hv2 hv3) _
 obtain ⟨a7,h7⟩:=pC (w:=iO) (one:=gQ all) (piece:=kLn) t.kinds 8 [] _ (by have:=h.kinds.2.1;omega) (fun _=>hnP iO (by decide+kernel) (by decide+kernel) (by decide+kernel) (by decide+kernel)) (fun x hx ls b hb=>P3 hb (h.kinds.2.2 x hx) all) h6
 obtain ⟨a8,h8⟩:=pC (w:=eZ) (one:=eQ all) (piece:=pLn) t.line 64 [] _ (by have:=h.line.2.1;omega) (fun _=>hnR eZ (by decide+kernel) (by decide+kernel) (by decide+kernel)) (fun x hx ls b hb=>I6 hb (h.line.2.2 x hx) all) h7
 obtain ⟨a9,h9⟩:=pC (w:=dU) (one:=eD all) (piece:=rLn) t.rails 16 [] _ (by have:=h.rails.2.1;omega) (fun _=>hnG dU (by decide+kernel) (by decide+kernel)) (fun x hx ls b hb=>NK hb ⟨(h.rails.2.2 x hx).1,(h.rails.2.2 x hx).2.1⟩ (h.rails.2.2 x hx).2.2 all) h8
 obtain ⟨b1,k1⟩:=pC (w:=gD) (one:=iT all) (piece:=gLn) t.gates 16 [] _ (by have:=h.gates.2.1;omega) (fun _=>hnE gD (by decide+kernel)) (fun x hx ls b hb=>P9 hb (h.gates.2.2 x hx) all) h9
 obtain ⟨b2,k2⟩:=JT k1 h.start h.head all
 have hlp:=h.laps
 obtain ⟨b3,k3⟩:=GR k2 (lo:=1) (hi:=100) (by omega) (by omega) hlp.1 hlp.2 all
 rw [List.nil_append] at a7 a8 a9 b1
 have eg:eO all b0=(⟨t.rate,t.cell,t.cols,t.rows,t.corner,t.heights,t.ground,t.kinds,[],[],[],(0,0),0,0⟩,(cJ (ba iO) (gQ all) 8 ([],(dS (pG all t.cols.toNat) t.rows.toNat (dS (kU all (t.cols+1).toNat) (t.rows+1).toNat (nK all (u5 all (K5 all (ba s5) (EG all (ba rO) 60 1024 b0).2).2).2).2).2).2)).2):=by
  unfold eO
  simp only [a1,a2,a3,a4,a5,a6,a7]
 have er:(cX all b0).1=t/\AtQ [] (cX all b0).2:=by
  unfold cX
  rw [eg]
  unfold F4
  simp only [a8,a9,b1,b2,b3]
  exact ⟨trivial,k3⟩
 obtain ⟨e1,⟨k,hq⟩,he,hp⟩:=er
 have ez:x8 (cX all b0).2=0:=by unfold x8;rw [he,hq];rfl
 rw [ez,e1,hr];rfl
end Go.Se
namespace Go.Se
theorem KH : ∀{ls:List Ln},(∀l,l∈ls->bB l.1/\dZ l.2)->bB (oB ls)
 | [],_=>fun x hx=>by cases hx
 |l::r,h=>fun x hx=>by
  obtain ⟨h1,h2⟩:=h l (List.mem_cons_self ..)
  rcases List.mem_append.1 hx with hx|hx
  ·unfold lnW at hx
   rcases List.mem_append.1 hx with hx|hx
   ·rcases List.mem_append.1 hx with hx|hx
    ·exact h1 x hx
    ·exact (AD h2).1 x hx
   ·rw [List.mem_singleton.1 hx];decide
  ·exact KH (fun y hy=>h y (List.mem_cons_of_mem _ hy)) x hx
theorem M1(t:TL): ∀l,l∈pU t->bB l.1/\dZ l.2:=fun l hl=>by
 unfold pU DE AZ at hl
 simp only [List.mem_cons,List.mem_append,List.mem_map,List.not_mem_nil,or_false] at hl
 rcases hl with rfl|rfl|rfl|rfl|hl|hl|hl|hl|hl|hl|rfl|rfl
 ·exact ⟨(cD rfl).1,aL (uZ _) dN⟩
 ·exact ⟨(cD rfl).1,aL (fE _) dN⟩
 ·exact ⟨(cD rfl).1,aL (uZ _) (aL (uZ _) dN)⟩
 ·exact ⟨(cD rfl).1,aL (fE _) (aL (fE _) dN)⟩
 ·obtain ⟨i,_,rfl⟩:=kB hl;exact ⟨(cD rfl).1,B3 _ _ _⟩
 ·obtain ⟨i,_,rfl⟩:=kB hl;exact ⟨(cD rfl).1,DA _ _ _⟩
 ·obtain ⟨x,_,rfl⟩:=hl;exact ⟨(cD rfl).1,aL (fE _) (aL (fE _) (aL (XB _) dN))⟩
 ·obtain ⟨x,_,rfl⟩:=hl;exact ⟨(cD rfl).1,aL (fE _) (aL (fE _) dN)⟩
 ·obtain ⟨x,_,rfl⟩:=hl;exact ⟨(cD rfl).1,mS _ _ _ _⟩
 ·obtain ⟨x,_,rfl⟩:=hl;exact ⟨(cD rfl).1,aL (fE _) (aL (fE _) (aL (fE _) (aL (fE _) (aL (QN _) dN))))⟩
 ·exact ⟨(cD rfl).1,aL (fE _) (aL (fE _) (aL (uZ _) dN))⟩
 ·exact ⟨(cD rfl).1,aL (uZ _) dN⟩
theorem E4(t:TL):aA (bytesOf (vX t.trk))=vX t.trk:=by
 rw [DD];exact cH (KH (M1 t))
theorem nT{f:Nat->List Int}{B:Nat}: ∀(n a:Nat),(∀i,a<=i->i<a+n->(f i).length<=B)->(bL f a n).length<=n*B
 |0,_,_=>Nat.zero_le _
 |n+1,a,h=>by
  show (f a++bL f (a+1) n).length<=(n+1)*B
  have h1:=nT n (a+1) fun i h1 h2=>h i (by omega) (by omega)
  have h2:=h a (Nat.le_refl _) (by omega)
  rw [List.length_append,Nat.add_mul,Nat.one_mul];omega
theorem XI{t:Trk}(h:aAA t):(vX t).length<=1000000:=by
 have h0:=yI h.gd
 have n1:=h.nl
 have n2:=h.nr
 have n3:=h.nt
 have h1:=nT (f:=IQ t) (B:=300) t.nl 0 fun i _ _=>by
  have:=iH (w:=eZ) (aL (fE (t.lx i)) (aL (fE (t.ly i)) dN))
  rw [show eZ.length=5 from rfl] at this
  simp only [List.length_cons,List.length_nil] at this
  unfold IQ;omega
 have h2:=nT (f:=G4 t) (B:=6000) t.nr 0 fun i _ hi=>by
  have:=iH (w:=dU) (mS (t.rx i) (t.ry i) (t.rn i) 0)
  rw [fM,show dU.length=4 from rfl] at this
  have:=(h.rn i (by omega)).2
  unfold G4;omega
 have h3:=nT (f:=BB t) (B:=300) t.nt 0 fun i _ _=>by
  have:=iH (w:=gD) (aL (fE (t.ax i)) (aL (fE (t.ay i)) (aL (fE (t.bx i)) (aL (fE (t.sb i)) (aL (QN (t.sp i)) dN)))))
  rw [show gD.length=4 from rfl] at this
  simp only [List.length_cons,List.length_nil] at this
  unfold BB;omega
 have h4:=iH (w:=g8) (aL (fE t.sx) (aL (fE t.sy) (aL (uZ t.head) dN)))
 have h5:=iH (w:=oZ) (aL (uZ t.laps) dN)
 rw [show g8.length=5 from rfl] at h4
 rw [show oZ.length=4 from rfl] at h5
 simp only [List.length_cons,List.length_nil] at h4 h5
 unfold vX
 rw [J5]
 simp only [List.length_append];omega
end Go.Se
namespace Go.Se
theorem in0 :bE 0:=⟨by decide,by decide⟩
theorem fX(b:Bk)(l:List Int):bE (tY b l):=by
 unfold tY rG
 cases b.err==0
 ·exact in0
 ·cases h:oN l&&qE (C1 l) with
  |false=>exact in0
  |true=>
   rw [Bool.and_eq_true] at h
   exact (i0 _).1 h.2
theorem E9{α:Type}{f:Bk->List α×Bk}{P:α->Prop}(h: ∀b x,x∈(f b).1->P x)(b:Bk): ∀n x,x∈(dS f n b).1->P x
 |0,_,hx=>by cases hx
 |n+1,x,hx=>by
  rcases List.mem_append.1 hx with hx|hx
  ·exact E9 h b n x hx
  ·exact h _ x hx
theorem oY{α:Type}{w:ByteArray}{one:Bk->α×Bk}{P:α->Prop}(hP: ∀b,P (one b).1): ∀(n:Nat) (s:List α×Bk),(∀x,x∈s.1->P x)-> ∀x,x∈(cJ w one n s).1->P x
 |0,_,h=>h
 |n+1,s,h=>by
  unfold cJ
  cases eY s.2 w
  ·exact h
  ·refine oY hP n _ fun x hx=> ?_
   rcases List.mem_append.1 hx with hx|hx
   ·exact h x hx
   ·rw [List.mem_singleton.1 hx];exact hP _
theorem QG : ∀(p:List (List Int)) (s:List Int×Bk),(∀x,x∈s.1->bE x)-> ∀x,x∈(p.foldl qY s).1->bE x
 | [],_,h=>h
 |y::p,s,h=>QG p _ fun x hx=>by
  rcases List.mem_append.1 hx with hx|hx
  ·exact h x hx
  ·rw [List.mem_singleton.1 hx];exact fX _ _
theorem aFz{all:Int}{n:Nat}(b:Bk): ∀x,x∈(kU all n b).1->bE x:=QG _ _ fun _ h=>by cases h
theorem Z1(b:Bk)(p:List (List Int)): ∀n x,x∈(mY b p n).1->bE x.1/\bE x.2
 |0,_,h=>by cases h
 |n+1,x,hx=>by
  rcases List.mem_append.1 hx with hx|hx
  ·exact Z1 b p n x hx
  ·rw [List.mem_singleton.1 hx];exact ⟨fX _ _,fX _ _⟩
theorem aBP{all:Int}(b:Bk): ∀x,x∈(eD all b).1->bE x.1/\bE x.2:=by
 unfold eD
 simp only
 cases (bif fN b (ba dU) 2 128 then [] else gW b).length%2==1
 ·exact Z1 _ _ _
 ·exact fun _ h=>by cases h
theorem XW(all:Int)(b:Bk):yD (cX all b).1.trk where
 cell:=fX _ _
 corner:=⟨fX _ _,fX _ _⟩
 h:=fun i hi=>E9 (fun b x=>aFz b x) _ _ _ (kH hi)
 k:=fun i hi=>oY (P:=fun x:Int×Int×Bool=>bE x.1/\bE x.2.1) (fun b=>⟨fX _ _,fX _ _⟩) _ _ (fun _ h=>by cases h) _ (kH hi)
 l:=fun i hi=>oY (P:=fun x:Int×Int=>bE x.1/\bE x.2) (fun b=>⟨fX _ _,fX _ _⟩) _ _ (fun _ h=>by cases h) _ (kH hi)
 r:=fun i hi k hk=>oY (P:=fun l:List (Int×Int)=> ∀x,x∈l->bE x.1/\bE x.2) (fun b=>aBP b) _ _ (fun _ h=>by cases h) _ (kH hi) _ (kH hk)
 g:=fun i hi=>oY (P:=fun x:Int×Int×Int×Int×Bool=>bE x.1/\bE x.2.1/\bE x.2.2.1/\bE x.2.2.2.1) (fun b=>⟨fX _ _,fX _ _,fX _ _,fX _ _⟩) _ _ (fun _ h=>by cases h) _ (kH hi)
 s:=⟨fX _ _,fX _ _⟩
 head:=by
  show 0<=jT _ _ 0 4294967295/\jT _ _ 0 4294967295<=4294967295
  rcases wX (b:=_) (l:=_) (lo:=0) (hi:=4294967295) with h|h
  ·rw [h.1];exact ⟨by decide,by decide⟩
  ·exact h
structure dL (b:Bk):Prop where
 last:0<=b.last
 place:0<=b.place
 q: ∀x,x∈b.q->0<=x.1
theorem dL.fail{b:Bk}{e:Int}(h:dL b):dL (jN b e b.last):=by
 unfold jN
 cases b.err==0&&e !=0
 ·exact h
 ·exact ⟨h.last,h.last,h.q⟩
theorem dL.head{b:Bk}(h:dL b):0<=(cT b.q).1:=by
 unfold cT
 cases hq:b.q with
 |nil=>exact Int.le_refl 0
 |cons x r=>exact h.q x (by rw [hq];exact List.mem_cons_self ..)
theorem dL.take{b:Bk}{all:Int}{w:ByteArray}{lo hi:Int}(h:dL b)(ha:0<=all):dL (gB all b w lo hi):=by
 unfold gB
 cases b.err !=0
 ·cases lH b w lo hi==0
  ·refine ⟨h.last, ?_,h.q⟩
   show 0<=bif b.q.isEmpty then all+1 else (cT b.q).1
   cases b.q.isEmpty
   ·exact h.head
   ·show 0<=all+1;omega
  ·exact ⟨h.head,h.place,fun x hx=>h.q x (List.mem_of_mem_tail hx)⟩
 ·exact h
theorem dL.num{b:Bk}{p:List Int}(h:dL b):dL (jZ b p):=h.fail
theorem dL.int{b:Bk}{p:List Int}{lo hi:Int}(h:dL b):dL (iC b p lo hi):=h.fail
theorem dL.one{b:Bk}{s:ByteArray}{ws:List ByteArray}(h:dL b):dL (jS b s ws):=h.fail
theorem xT{α:Type}{I:Bk->Prop}{f:Bk->List α×Bk}(hf: ∀b,I b->I (f b).2){b:Bk}(h:I b): ∀n,I (dS f n b).2
 |0=>h
 |n+1=>hf _ (xT hf h n)
theorem pO{α:Type}{I:Bk->Prop}{w:ByteArray}{one:Bk->α×Bk}(h1: ∀b,I b->I (one b).2): ∀(n:Nat) (s:List α×Bk),I s.2->I (cJ w one n s).2
 |0,_,h=>h
 |n+1,s,h=>by
  unfold cJ
  cases eY s.2 w
  ·exact h
  ·exact pO h1 n _ (h1 _ h)
theorem BD{σ:Type}{I:σ->Prop}{f:σ->List Int->σ}(hf: ∀s p,I s->I (f s p)): ∀(p:List (List Int)) (s:σ),I s->I (p.foldl f s)
 | [],_,h=>h
 |y::p,s,h=>BD hf p _ (hf s y h)
theorem RY{b:Bk}(h:dL b)(p:List (List Int)): ∀n,dL (mY b p n).2
 |0=>h
 |n+1=>(RY h p n).num.num
theorem X2{all:Int}(ha:0<=all)(b:Bk)(h:dL b):dL (eD all b).2:=by
 unfold eD
 simp only
 cases (bif fN b (ba dU) 2 128 then [] else gW b).length%2==1
 ·exact RY (h.take ha) _ _
 ·exact (h.take ha).fail
theorem XN{all:Int}(ha:0<=all)(b:Bk)(h:dL b):dL (gQ all b).2:=(dL.take h ha).num.num.one
theorem VZ{all:Int}(ha:0<=all)(b:Bk)(h:dL b):dL (eQ all b).2:=(dL.take h ha).num.num
theorem aAU{all:Int}(ha:0<=all)(b:Bk)(h:dL b):dL (iT all b).2:=(dL.take h ha).num.num.num.num.one
theorem aB5{all:Int}{n:Nat}(ha:0<=all)(b:Bk)(h:dL b):dL (kU all n b).2:=BD (I:=fun s:List Int×Bk=>dL s.2) (fun _ _ h=>dL.num h) _ _ (dL.take h ha)
theorem aBC{all:Int}{n:Nat}(ha:0<=all)(b:Bk)(h:dL b):dL (pG all n b).2:=BD (I:=fun s:List Int×Bk=>dL s.2) (fun _ _ h=>dL.int h) _ _ (dL.take h ha)
theorem MU{all:Int}{w:ByteArray}{lo hi:Int}(ha:0<=all){b:Bk}(h:dL b):dL (EG all w lo hi b).2:=(dL.take h ha).int
theorem aAt{all:Int}{w:ByteArray}(ha:0<=all){b:Bk}(h:dL b):dL (K5 all w b).2:=(dL.take h ha).num
theorem ZO{all:Int}(ha:0<=all){b:Bk}(h:dL b):dL (u5 all b).2:=(dL.take h ha).int.int
theorem P1{all:Int}(ha:0<=all){b:Bk}(h:dL b):dL (nK all b).2:=(dL.take h ha).num.num
theorem UE{all:Int}(ha:0<=all){b:Bk}(h:dL b):dL (vG all b).2:=(dL.take h ha).num.num.int
theorem OD{all:Int}(ha:0<=all){b:Bk}(h:dL b):dL (eO all b).2:=by
 unfold eO
 exact pO (XN ha) _ _ (xT (aBC ha) (xT (aB5 ha) (P1 ha (ZO ha (aAt ha (MU ha h)))) _) _)
theorem UW{all:Int}(ha:0<=all){b:Bk}(h:dL b):dL (cX all b).2:=by
 have hg:=OD ha h
 unfold cX F4
 generalize eO all b=g at*
 exact MU ha (UE ha (pO (aAU ha) _ _ (pO (X2 ha) _ _ (pO (VZ ha) _ _ hg))))
theorem HT : ∀(l:List (List Int)) (k:Int),0<=k-> ∀x,x∈nbF k l->0<=x.1
 | [],_,_,_,h=>by cases h
 |t::r,k,hk,x,h=>by
  unfold nbF at h
  cases he:(bW t).isEmpty with
  |true=>rw [he] at h;exact HT r (k+1) (by omega) x h
  |false=>
   rw [he] at h
   rcases List.mem_cons.1 h with rfl|h
   ·show 0<=k+1;omega
   ·exact HT r (k+1) (by omega) x h
theorem YO(l:List Int):dL (eE l):=⟨Int.le_refl 0,Int.le_refl 0,HT _ 0 (Int.le_refl 0)⟩
theorem aBK(l:List Int):0<=(iU l).2.2:=by
 have h:=UW (all:=hJ l) (by unfold hJ;omega) (YO l)
 unfold iU
 cases x8 (cX (hJ l) (eE l)).2 !=0 with
 |true=>
  show 0<=DH (cX (hJ l) (eE l)).2
  unfold DH
  cases (cX (hJ l) (eE l)).2.err !=0
  ·cases (cX (hJ l) (eE l)).2.q.isEmpty
   ·exact h.head
   ·exact h.place
  ·exact h.place
 |false=>
  cases (cG (cX (hJ l) (eE l)).1.trk).1 !=0
  ·exact Int.le_refl 0
  ·exact Int.le_refl 0
theorem X4{l:List Int}{t:TL}{a:Int}(h:iU l=(t,0,a)):(cG t.trk).1=0/\yD t.trk/\a=0:=by
 unfold iU at h
 cases h1:x8 (cX (hJ l) (eE l)).2 !=0 with
 |true=>
  rw [h1] at h
  simp only [cond_true,Prod.mk.injEq] at h
  rw [h.2.1] at h1;exact absurd h1 (by decide)
 |false=>
  rw [h1] at h
  cases h2:(cG (cX (hJ l) (eE l)).1.trk).1 !=0 with
  |true=>
   rw [h2] at h
   simp only [cond_true,cond_false,Prod.mk.injEq] at h
   rw [h.2.1] at h2;exact absurd h2 (by decide)
  |false=>
   rw [h2] at h
   simp only [cond_false,Prod.mk.injEq] at h
   obtain ⟨rfl,_,rfl⟩:=h
   exact ⟨bne_eq_false_iff_eq.1 h2,XW _ _,rfl⟩
theorem P7{l:List Int}(hL:PE (dX l)):g9 (iU l).1.trk:=by
 have hz:g9 TL.zero.trk:=⟨by decide,fun i hi=>absurd hi (Nat.not_lt_zero i)⟩
 unfold iU
 cases x8 (cX (hJ l) (eE l)).2 !=0
 ·cases (cG (cX (hJ l) (eE l)).1.trk).1 !=0
  ·have hk:aK (cJ (ba eZ) (eQ (hJ l)) 64 ([],(eO (hJ l) (eE l)).2)).2:=pL (fun b h=>xD h) _ _ (BK (GQ hL))
   exact JL (by have:=xQ (w:=ba dU) (one:=eD (hJ l)) 16 ([],(cJ (ba eZ) (eQ (hJ l)) 64 ([],(eO (hJ l) (eE l)).2)).2);rw [List.length_nil,Nat.zero_add] at this;exact this)
    (CZ (w:=ba dU) (one:=eD (hJ l)) (P:=fun l=>l.length<=64) (fun b h=>wM h) (fun b h=>FT h) 16 _ hk (fun x hx=>by cases hx))
  ·exact hz
 ·exact hz
end Go.Se
namespace Go.Proofs.YtghnfjfkjhbgdaaGreatDoor
open Go.Se
set_option maxRecDepth 100000
theorem aCI(K:KC):oA 40 t0 6 30 [] [] K=
 (K (SV.agg [SV.int .i64 64,SV.int .i64 68719476736,SV.int .i64 4,SV.int .i64 4,SV.int .i64 0,SV.int .i64 0,SV.own 0 0 1 25,SV.own 1 0 1 16,SV.arr 2 0 2 2,SV.arr 3 0 4 4,SV.arr 4 0 2 2,SV.arr 7 0 3 3,SV.int .i64 137438953472,SV.int .i64 42949672960,SV.int .u32 0,SV.int .i64 2]) [some (SB.lst 22 [SV.int .i64 0,SV.int .i64 0,SV.int .i64 0,SV.int .i64 0,SV.int .i64 0,SV.int .i64 0,SV.int .i64 0,SV.int .i64 0,SV.int .i64 0,SV.int .i64 0,SV.int .i64 0,SV.int .i64 0,SV.int .i64 0,SV.int .i64 0,SV.int .i64 0,SV.int .i64 0,SV.int .i64 0,SV.int .i64 0,SV.int .i64 0,SV.int .i64 0,SV.int .i64 0,SV.int .i64 0,SV.int .i64 0,SV.int .i64 0,SV.int .i64 0]),some (SB.lst 3 [SV.int .i64 0,SV.int .i64 0,SV.int .i64 0,SV.int .i64 0,SV.int .i64 0,SV.int .i64 1,SV.int .i64 1,SV.int .i64 0,SV.int .i64 0,SV.int .i64 1,SV.int .i64 1,SV.int .i64 0,SV.int .i64 0,SV.int .i64 0,SV.int .i64 0,SV.int .i64 0]),some (SB.cells 107 [SV.int .i64 4294967296,SV.int .i64 67108864,SV.bool false,SV.int .i64 2147483648,SV.int .i64 536870912,SV.bool true]),some (SB.cells 24 [SV.int .i64 42949672960,SV.int .i64 42949672960,SV.int .i64 231928233984,SV.int .i64 42949672960,SV.int .i64 231928233984,SV.int .i64 231928233984,SV.int .i64 42949672960,SV.int .i64 231928233984]),some (SB.cells 28 [SV.arr 5 0 5 5,SV.arr 6 0 5 5]),some (SB.cells 24 [SV.int .i64 8589934592,SV.int .i64 8589934592,SV.int .i64 266287972352,SV.int .i64 8589934592,SV.int .i64 266287972352,SV.int .i64 266287972352,SV.int .i64 8589934592,SV.int .i64 266287972352,SV.int .i64 8589934592,SV.int .i64 8589934592]),some (SB.cells 24 [SV.int .i64 103079215104,SV.int .i64 103079215104,SV.int .i64 103079215104,SV.int .i64 171798691840,SV.int .i64 171798691840,SV.int .i64 171798691840,SV.int .i64 171798691840,SV.int .i64 103079215104,SV.int .i64 103079215104,SV.int .i64 103079215104]),some (SB.cells 57 [SV.int .i64 154618822656,SV.int .i64 103079215104,SV.int .i64 154618822656,SV.int .i64 8589934592,SV.bool false,SV.int .i64 171798691840,SV.int .i64 154618822656,SV.int .i64 266287972352,SV.int .i64 154618822656,SV.bool true,SV.int .i64 120259084288,SV.int .i64 171798691840,SV.int .i64 120259084288,SV.int .i64 266287972352,SV.bool false])] []):=by kernel_rfl
def qZ :TL:=⟨64,68719476736,4,4,(0,0),[0,0,0,0,0,0,0,0,0,0,0,0,0,0,0,0,0,0,0,0,0,0,0,0,0],[0,0,0,0,0,1,1,0,0,1,1,0,0,0,0,0],[(4294967296,67108864,false),(2147483648,536870912,true)],[(42949672960,42949672960),(231928233984,42949672960),(231928233984,231928233984),(42949672960,231928233984)],[[(8589934592,8589934592),(266287972352,8589934592),(266287972352,266287972352),(8589934592,266287972352),(8589934592,8589934592)],[(103079215104,103079215104),(103079215104,171798691840),(171798691840,171798691840),(171798691840,103079215104),(103079215104,103079215104)]],[(154618822656,103079215104,154618822656,8589934592,false),(171798691840,154618822656,266287972352,154618822656,true),(120259084288,171798691840,120259084288,266287972352,false)],(137438953472,42949672960),0,2⟩
def aDp :SV:= .agg [SV.int .i64 64,SV.int .i64 68719476736,SV.int .i64 4,SV.int .i64 4,SV.int .i64 0,SV.int .i64 0,SV.own 0 0 1 25,SV.own 1 0 1 16,SV.arr 2 0 2 2,SV.arr 3 0 4 4,SV.arr 4 0 2 2,SV.arr 7 0 3 3,SV.int .i64 137438953472,SV.int .i64 42949672960,SV.int .u32 0,SV.int .i64 2]
def aDG :List (Option SB):=[some (SB.lst 22 [SV.int .i64 0,SV.int .i64 0,SV.int .i64 0,SV.int .i64 0,SV.int .i64 0,SV.int .i64 0,SV.int .i64 0,SV.int .i64 0,SV.int .i64 0,SV.int .i64 0,SV.int .i64 0,SV.int .i64 0,SV.int .i64 0,SV.int .i64 0,SV.int .i64 0,SV.int .i64 0,SV.int .i64 0,SV.int .i64 0,SV.int .i64 0,SV.int .i64 0,SV.int .i64 0,SV.int .i64 0,SV.int .i64 0,SV.int .i64 0,SV.int .i64 0]),some (SB.lst 3 [SV.int .i64 0,SV.int .i64 0,SV.int .i64 0,SV.int .i64 0,SV.int .i64 0,SV.int .i64 1,SV.int .i64 1,SV.int .i64 0,SV.int .i64 0,SV.int .i64 1,SV.int .i64 1,SV.int .i64 0,SV.int .i64 0,SV.int .i64 0,SV.int .i64 0,SV.int .i64 0]),some (SB.cells 107 [SV.int .i64 4294967296,SV.int .i64 67108864,SV.bool false,SV.int .i64 2147483648,SV.int .i64 536870912,SV.bool true]),some (SB.cells 24 [SV.int .i64 42949672960,SV.int .i64 42949672960,SV.int .i64 231928233984,SV.int .i64 42949672960,SV.int .i64 231928233984,SV.int .i64 231928233984,SV.int .i64 42949672960,SV.int .i64 231928233984]),some (SB.cells 28 [SV.arr 5 0 5 5,SV.arr 6 0 5 5]),some (SB.cells 24 [SV.int .i64 8589934592,SV.int .i64 8589934592,SV.int .i64 266287972352,SV.int .i64 8589934592,SV.int .i64 266287972352,SV.int .i64 266287972352,SV.int .i64 8589934592,SV.int .i64 266287972352,SV.int .i64 8589934592,SV.int .i64 8589934592]),some (SB.cells 24 [SV.int .i64 103079215104,SV.int .i64 103079215104,SV.int .i64 103079215104,SV.int .i64 171798691840,SV.int .i64 171798691840,SV.int .i64 171798691840,SV.int .i64 171798691840,SV.int .i64 103079215104,SV.int .i64 103079215104,SV.int .i64 103079215104]),some (SB.cells 57 [SV.int .i64 154618822656,SV.int .i64 103079215104,SV.int .i64 154618822656,SV.int .i64 8589934592,SV.bool false,SV.int .i64 171798691840,SV.int .i64 154618822656,SV.int .i64 266287972352,SV.int .i64 154618822656,SV.bool true,SV.int .i64 120259084288,SV.int .i64 171798691840,SV.int .i64 120259084288,SV.int .i64 266287972352,SV.bool false])]
theorem m9{α:Type}{g g':Nat->α}{n:Nat}(h:(List.range n).map g=(List.range n).map g'): ∀i,i<n->g i=g' i:=fun i hi=>by
 have:=congrArg (fun l=>l[i]?) h
 simp only [List.getElem?_map,List.getElem?_range hi,Option.map_some,Option.some.injEq] at this
 exact this
theorem aAi{ρ:aG}{T:Nat->Prop}{w:World}{x:Value}(h:rel ρ T w (frz 6 aDG aDp) x):rel ρ T w (.agg (aU qZ.trk)) x:=by
 obtain ⟨a,rfl,v1,l1,z1,q1,v2,l2,z2,q2,v3,l3,z3,q3,v4,l4,z4,q4,v5,l5,z5,q5,v6,l6,z6,q6,v7,l7,z7,q7,v8,l8,z8,q8,v9,l9,z9,q9,v10,l10,z10,q10,v11,l11,z11,q11,v12,l12,z12,q12,v13,l13,z13,q13,v14,l14,z14,q14,v15,l15,z15,q15,v16,l16,z16,q16,q17⟩:=h
 refine ⟨a,rfl,v1,l1,z1,q1,v2,l2,z2,q2,v3,l3,z3,q3,v4,l4,z4,q4,v5,l5,z5,q5,v6,l6,z6,q6,v7,l7,z7,y9 rfl (m9 (by kernel_rfl)) q7,v8,l8,z8,y9 rfl (m9 (by kernel_rfl)) q8,v9,l9,z9,y9 rfl (m9 (by kernel_rfl)) q9,v10,l10,z10,y9 rfl (m9 (by kernel_rfl)) q10,v11,l11,z11,FG rfl (fun i hi b o hb=> ?_) q11,v12,l12,z12,y9 rfl (m9 (by kernel_rfl)) q12,v13,l13,z13,q13,v14,l14,z14,q14,v15,l15,z15,q15,v16,l16,z16,q16,q17⟩
 match i,hi with
 |0,_=>
  obtain ⟨⟨x,hx,hr⟩,hb2⟩:=hb
  exact ⟨⟨x,hx,y9 rfl (m9 (by kernel_rfl)) hr⟩,hb2⟩
 |1,_=>
  obtain ⟨⟨x,hx,hr⟩,hb2⟩:=hb
  exact ⟨⟨x,hx,y9 rfl (m9 (by kernel_rfl)) hr⟩,hb2⟩
theorem aCT :aD Tryz.prog 30 [] [] (.agg (aU qZ.trk)) [] []:=
 qP (fun _ _ _ _ h=>aAi h) (D8 6 (v:=aDp) (σ':=aDG) (kE 40 t0 6 fun _ _ K hK=>by rw [aCI];exact hK))
theorem u1 :cG qZ.trk=(0,0):=by kernel_rfl
def IV(t:Trk):List SV->List (Option SB)->Out
 | [],[]=>some (.agg (aU t),[],[])
 |_,_=>none
theorem YI(xs:List SV)(σ:List (Option SB)):Sat Tryz.prog 30 xs σ (one (IV qZ.trk) xs σ):=
 bC (fun xs σ v σ' d h=>by
  unfold IV at h
  split at h
  ·cases h;exact aCT
  ·cases h) xs σ
noncomputable def oc(t:Trk)(h: ∀xs σ,Sat Tryz.prog 30 xs σ (one (IV t) xs σ)):bU Tryz.prog:=ob.add 30 (one (IV t)) h
theorem M3(t:Trk)(h: ∀xs σ,Sat Tryz.prog 30 xs σ (one (IV t) xs σ))(K:KC):run (oc t h) 2 10 [] [] K=
 (∃(e400:Trk),((aU t)=aU e400/\g9 e400)/\(((kI e400).size<=1048576)/\(∀(t397:TL),∀(e396:Int),∀(a395:Int),∀(_:J8 (aA (kI e400)) t397 e396 a395),(0<=1048576)/\(∀(t392:TL),∀(e391:Int),∀(a390:Int),∀(_:J8 (aA (⟨#[]⟩:ByteArray)) t392 e391 a390),Br ((cG e400).fst==0) (Br (e396==0) ((lY (aM t397.trk.h) (aM t397.trk.g) (eS t397.trk) (bT t397.trk.lx t397.trk.ly) (cB t397.trk) (eN t397.trk))/\((lY (aM t.h) (aM t.g) (eS t) (bT t.lx t.ly) (cB t) (eN t))/\((rD (mG t397.trk.rate t397.trk.cell t397.trk.cols t397.trk.rows t397.trk.cx t397.trk.cy t397.trk.nh (aM t397.trk.h) t397.trk.ng (aM t397.trk.g) t397.trk.nk (eS t397.trk) t397.trk.nl (bT t397.trk.lx t397.trk.ly) t397.trk.nr (cB t397.trk) t397.trk.nt (eN t397.trk) t397.trk.sx t397.trk.sy t397.trk.head t397.trk.laps) t)/\(Br (e391==20) (K (SV.bool (a390==1)) [] []) (K (SV.bool false) [] []))))) (K (SV.bool false) [] [])) (K (SV.bool false) [] []))))):=by kernel_rfl
theorem RJ :yD qZ.trk where
 cell:=⟨by decide,by decide⟩
 corner:=⟨⟨by decide,by decide⟩,⟨by decide,by decide⟩⟩
 h:=by decide+kernel
 k:=by decide+kernel
 l:=by decide+kernel
 r:=by decide+kernel
 g:=by decide+kernel
 s:=⟨⟨by decide,by decide⟩,⟨by decide,by decide⟩⟩
 head:=⟨by decide,by decide⟩
theorem S0 :iU (vX qZ.trk)=(qZ,0,0):=by
 have h:=IK (t:=qZ.trk) (by rw [u1]) RJ
 rw [IZ] at h
 exact J3 h (by rw [u1])
noncomputable abbrev ocs :bU Tryz.prog:=oc qZ.trk YI
theorem CG{t:Trk}(h:(cG t).1=0):kI t=bytesOf (vX t):=by unfold kI;rw [h];rfl
theorem CM{t:Trk}(h:(cG t).1=0)(hi:yD t):(kI t).size<=1048576:=by
 rw [CG h,aO];have:=XI (R5 h hi);omega
theorem Z0 :iU []=(TL.zero,20,1):=by kernel_rfl
theorem eK :aD Tryz.prog 10 [] [] (.bool true) [] []:=
 aW ocs 2 fun _ _ K hK=>by
  have h0:(cG qZ.trk).1=0:=by rw [u1]
  rw [M3]
  refine ⟨qZ.trk,⟨rfl,by decide,by decide+kernel⟩,CM h0 RJ,fun t e a h=>⟨by decide,fun t2 e2 a2 h2=> ?_⟩⟩
  unfold J8 at h h2
  rw [CG h0,E4,S0] at h
  rw [show aA (⟨#[]⟩:ByteArray)=[] from rfl,Z0] at h2
  cases h;cases h2
  rw [h0]
  exact ⟨gJ _,gJ _,uW qZ.trk,hK⟩
def MN :List SV->List (Option SB)->Out
 | [],[]=>some (.bool true,[],[])
 |_,_=>none
def zTL(b0 b1 b2 b3 b4 b5 b6 b7 b8 b9:Int):TL:=⟨b0,b1,b2,b3,(b4,b5),[],[],[],[],[],[],(b6,b7),b8,b9⟩
theorem aFB{t:Trk}{b0 b1 b2 b3 b4 b5 b6 b7 b8 b9:Int}(h:rD t (zTL b0 b1 b2 b3 b4 b5 b6 b7 b8 b9).trk):aD Tryz.prog 13 [.agg (aU t),.agg [.int .i64 b0,.int .i64 b1,.int .i64 b2,.int .i64 b3,.int .i64 b4,.int .i64 b5,.nils,.nils,.nils,.nils,.nils,.nils,.int .i64 b6,.int .i64 b7,.int .u32 b8,.int .i64 b9]] [] (.bool true) [] []:=
 KE (fun ρ T w l hl=>by
  obtain ⟨x,r,e,hx,y,r2,e2,⟨a,rfl,hy⟩,hr⟩:=hl
  refine ⟨x,r,e,hx,_,r2,e2,⟨a,rfl, ?_⟩,hr⟩
  obtain ⟨v1,l1,z1,q1,v2,l2,z2,q2,v3,l3,z3,q3,v4,l4,z4,q4,v5,l5,z5,q5,v6,l6,z6,q6,v7,l7,z7,q7,v8,l8,z8,q8,v9,l9,z9,q9,v10,l10,z10,q10,v11,l11,z11,q11,v12,l12,z12,q12,q13⟩:=hy
  exact ⟨v1,l1,z1,q1,v2,l2,z2,q2,v3,l3,z3,q3,v4,l4,z4,q4,v5,l5,z5,q5,v6,l6,z6,q6,v7,l7,z7,fY q7,v8,l8,z8,fY q8,v9,l9,z9,fY q9,v10,l10,z10,fY q10,v11,l11,z11,fY q11,v12,l12,z12,fY q12,q13⟩) (KP h)
def OE :List SV->List (Option SB)->KC->Prop
 | [.agg [.int .i64 a0,.int .i64 a1,.int .i64 a2,.int .i64 a3,.int .i64 a4,.int .i64 a5,.ro anh 1 ah,.ro ang 1 ag,.ro ank 3 akg,.ro anl 2 al,.ro anr 1 arl,.ro ant 5 agt,.int .i64 asx,.int .i64 asy,.int .u32 ahd,.int .i64 alp],.agg [.int .i64 b0,.int .i64 b1,.int .i64 b2,.int .i64 b3,.int .i64 b4,.int .i64 b5,.nils,.nils,.nils,.nils,.nils,.nils,.int .i64 b6,.int .i64 b7,.int .u32 b8,.int .i64 b9]],[],K=>lY ah ag akg al arl agt/\rD (mG a0 a1 a2 a3 a4 a5 anh ah ang ag ank akg anl al anr arl ant agt asx asy ahd alp) (zTL b0 b1 b2 b3 b4 b5 b6 b7 b8 b9).trk/\K (.bool true) [] []
 |xs,σ,K=>uU xs σ K
theorem UA(xs:List SV)(σ:List (Option SB)):Sat Tryz.prog 13 xs σ (OE xs σ):=by
 intro K hK
 unfold OE at hK
 split at hK
 ·obtain ⟨h1,h2,hK⟩:=hK
  refine ⟨_,_,_,hK, ?_⟩
  rw [nM h1]
  exact aFB h2
 ·exact ET _ _ K hK
noncomputable def oe :bU Tryz.prog:=(((ob).add 13 OE UA).add 10 (one MN) (bC fun xs σ v σ' d h=>by
  unfold MN at h;split at h<;>cases h;first|exact eK|exact eK _|exact eK _ _|exact eK _ _ _|exact eK _ _ _ _|exact eK _ _ _ _ _|exact eK _ _ _ _ _ _|exact eK _ _ _ _ _ _ _|exact eK _ _ _ _ _ _ _ _|exact eK _ _ _ _ _ _ _ _ _|exact eK _ _ _ _ _ _ _ _ _ _|exact eK _ _ _ _ _ _ _ _ _ _ _)).add 14 cRt P5
theorem aC9(s:ByteArray)(K:KC):run oe 2 6 [.str s] [] K=
 (Br (decide ((↑s.size:Int)>30000)) (K (SV.bool true) [] []) ((s.size<=1048576)/\(∀(t398:TL),∀(e397:Int),∀(a396:Int),∀(_:J8 (aA s) t398 e397 a396),Br (e397 !=0) (Br (decide (a396>=0)) ((lY (aM t398.trk.h) (aM t398.trk.g) (eS t398.trk) (bT t398.trk.lx t398.trk.ly) (cB t398.trk) (eN t398.trk))/\((rD (mG t398.trk.rate t398.trk.cell t398.trk.cols t398.trk.rows t398.trk.cx t398.trk.cy t398.trk.nh (aM t398.trk.h) t398.trk.ng (aM t398.trk.g) t398.trk.nk (eS t398.trk) t398.trk.nl (bT t398.trk.lx t398.trk.ly) t398.trk.nr (cB t398.trk) t398.trk.nt (eN t398.trk) t398.trk.sx t398.trk.sy t398.trk.head t398.trk.laps) (zTL 0 0 0 0 0 0 0 0 0 0).trk)/\(K (SV.bool true) [] []))) (K (SV.bool false) [] [])) (∃(e393:Trk),([SV.int .i64 t398.trk.rate,SV.int .i64 t398.trk.cell,SV.int .i64 t398.trk.cols,SV.int .i64 t398.trk.rows,SV.int .i64 t398.trk.cx,SV.int .i64 t398.trk.cy,SV.ro t398.trk.nh 1 (aM t398.trk.h),SV.ro t398.trk.ng 1 (aM t398.trk.g),SV.ro t398.trk.nk 3 (eS t398.trk),SV.ro t398.trk.nl 2 (bT t398.trk.lx t398.trk.ly),SV.ro t398.trk.nr 1 (cB t398.trk),SV.ro t398.trk.nt 5 (eN t398.trk),SV.int .i64 t398.trk.sx,SV.int .i64 t398.trk.sy,SV.int .u32 t398.trk.head,SV.int .i64 t398.trk.laps]=aU e393/\g9 e393)/\(∃(e391:Trk),([SV.int .i64 t398.trk.rate,SV.int .i64 t398.trk.cell,SV.int .i64 t398.trk.cols,SV.int .i64 t398.trk.rows,SV.int .i64 t398.trk.cx,SV.int .i64 t398.trk.cy,SV.ro t398.trk.nh 1 (aM t398.trk.h),SV.ro t398.trk.ng 1 (aM t398.trk.g),SV.ro t398.trk.nk 3 (eS t398.trk),SV.ro t398.trk.nl 2 (bT t398.trk.lx t398.trk.ly),SV.ro t398.trk.nr 1 (cB t398.trk),SV.ro t398.trk.nt 5 (eN t398.trk),SV.int .i64 t398.trk.sx,SV.int .i64 t398.trk.sy,SV.int .u32 t398.trk.head,SV.int .i64 t398.trk.laps]=aU e391/\g9 e391)/\(((kI e391).size<=1048576)/\(∀(t388:TL),∀(e387:Int),∀(a386:Int),∀(_:J8 (aA (kI e391)) t388 e387 a386),Br ((cG e393).fst==0) (Br ((cG e391).fst==0) (Br (e387==0) ((lY (aM t398.trk.h) (aM t398.trk.g) (eS t398.trk) (bT t398.trk.lx t398.trk.ly) (cB t398.trk) (eN t398.trk))/\((lY (aM t388.trk.h) (aM t388.trk.g) (eS t388.trk) (bT t388.trk.lx t388.trk.ly) (cB t388.trk) (eN t388.trk))/\((rD (mG t398.trk.rate t398.trk.cell t398.trk.cols t398.trk.rows t398.trk.cx t398.trk.cy t398.trk.nh (aM t398.trk.h) t398.trk.ng (aM t398.trk.g) t398.trk.nk (eS t398.trk) t398.trk.nl (bT t398.trk.lx t398.trk.ly) t398.trk.nr (cB t398.trk) t398.trk.nt (eN t398.trk) t398.trk.sx t398.trk.sy t398.trk.head t398.trk.laps) (mG t388.trk.rate t388.trk.cell t388.trk.cols t388.trk.rows t388.trk.cx t388.trk.cy t388.trk.nh (aM t388.trk.h) t388.trk.ng (aM t388.trk.g) t388.trk.nk (eS t388.trk) t388.trk.nl (bT t388.trk.lx t388.trk.ly) t388.trk.nr (cB t388.trk) t388.trk.nt (eN t388.trk) t388.trk.sx t388.trk.sy t388.trk.head t388.trk.laps))/\(K (SV.bool true) [] [])))) (K (SV.bool false) [] [])) (K (SV.bool false) [] [])) (K (SV.bool false) [] [])))))))):=by kernel_rfl
theorem aBt(s:ByteArray):aD Tryz.prog 6 [.str s] [] (.bool true) [] []:=
 aW oe 2 fun _ _ K hK=>by
  rw [aC9]
  refine Br.of (fun _=>hK) fun c=>⟨by have:=of_decide_eq_false c;omega,fun t e a h=> ?_⟩
  have hsz:s.size<=1048576:=by have:=of_decide_eq_false c;omega
  have hsm:=P7 (u7 hsz)
  have hat:=aBK (aA s)
  have hcs:=KZ (aA s)
  unfold J8 at h
  rw [<- h] at hsm hat hcs
  refine Br.of (fun c2=> ?_) fun c2=> ?_
  ·rw [decide_eq_true (show a>=0 from hat)]
   rcases hcs with ⟨e',a',he⟩|⟨t',he⟩
   ·cases he
    exact ⟨gJ _,uW _,hK⟩
   ·cases he;exact absurd c2 (by decide)
  ·obtain rfl:e=0:=bne_eq_false_iff_eq.1 c2
   obtain ⟨h0,hi,_⟩:=X4 h.symm
   have hk:=IK h0 hi
   rw [IZ] at hk
   refine ⟨t.trk,⟨rfl,hsm⟩,t.trk,⟨rfl,hsm⟩,CM h0 hi,fun u e2 a2 h2=> ?_⟩
   unfold J8 at h2
   rw [CG h0,E4,J3 hk h0] at h2
   cases h2
   rw [h0]
   exact ⟨gJ _,gJ _,uW t.trk,hK⟩
end Go.Proofs.YtghnfjfkjhbgdaaGreatDoor
