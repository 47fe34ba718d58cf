import Derived.Test.YtghnfjfkjhbgdaaGreatDoorZC
import Derived.Laws.RangeAny
namespace Go.Proofs.YtghnfjfkjhbgdaaGreatDoor
open Go.Se
set_option maxRecDepth 100000
theorem CO(s:ByteArray)(K:KC):run t3 5 132 [.str s,.str ⟨#[45]⟩] [] K=
  Br (decide ((s.size:Int)>=1)) (If (true&&(true&&decide ((1:Int)<=(s.size:Int)))) (Br (!(s.extract 0 1==⟨#[45]⟩)) (K (.tup [.str s,.bool false]) [] [])
   (If (true&&(decide ((1:Int)<=(s.size:Int))&&decide ((s.size:Int)<=(s.size:Int)))) (K (.tup [.str (s.extract 1 (s.size:Int).toNat),.bool true]) [] []))))
   (K (.tup [.str s,.bool false]) [] []):=by kernel_rfl
theorem bC(s t:ByteArray)(h:(t==⟨#[45]⟩)=true):aE Tryz.prog 132 [.str s,.str t] [] (.tup [.str (bytesOf (dN (aD s))),.bool (mG (aD s))]) [] []:=by
 rw [lO,ci] at h
 have:t=⟨#[45]⟩:=ep h
 subst this
 refine aS t3 5 fun _ _ K hK=> ?_
 rw [CO]
 have:=G3 (dJ s) hK
 rw [fC] at this
 exact this
theorem Y3(s:ByteArray)(K:KC):run t3 5 126 [.str s,.str ⟨#[46]⟩] [] K=
  Br ((⟨#[46]⟩:ByteArray)==s) (If (true&&(decide ((1:Int)<=(s.size:Int))&&decide ((s.size:Int)<=(s.size:Int)))) (K (.tup [.str (s.extract 0 0),.str (s.extract 1 (s.size:Int).toNat),.bool true]) [] []))
   (Br (decide (iC s 46>=0)) (If (true&&(decide ((0:Int)<=iC s 46)&&decide (iC s 46<=(s.size:Int))))
    (If (decide (0<=IntKind.i64.wrap (iC s 46+1))&&(decide (IntKind.i64.wrap (iC s 46+1)<=(s.size:Int))&&decide ((s.size:Int)<=(s.size:Int))))
     (K (.tup [.str (s.extract 0 (iC s 46).toNat),.str (s.extract (IntKind.i64.wrap (iC s 46+1)).toNat (s.size:Int).toNat),.bool true]) [] [])))
    (K (.tup [.str s,.str ⟨#[]⟩,.bool false]) [] [])):=by kernel_rfl
theorem fW(s t:ByteArray)(h:(t==⟨#[46]⟩)=true):aE Tryz.prog 126 [.str s,.str t] [] (.tup [.str (bytesOf (eM 46 (aD s))),.str (bytesOf (kF 46 (aD s))),.bool (iN 46 (aD s))]) [] []:=by
 rw [lO,ci] at h
 have:t=⟨#[46]⟩:=ep h
 subst this
 refine aS t3 5 fun ⟨hs,_⟩ _ K hK=> ?_
 have hs':s.size<9223372036854775808:=hs
 rw [Y3]
 have:=aHp (dJ s) (by rw [cF];exact hs') hK
 rw [fC] at this
 exact this
theorem SG : ∀k:Nat,k<=9-> ∀K,run t3 5 206 [.str ⟨#[48]⟩,.int .i64 (k:Int)] [] K=K (.str (bytesOf (List.replicate k 48))) [] []
 |0,_,K=>by kernel_rfl
 |1,_,K=>by kernel_rfl
 |2,_,K=>by kernel_rfl
 |3,_,K=>by kernel_rfl
 |4,_,K=>by kernel_rfl
 |5,_,K=>by kernel_rfl
 |6,_,K=>by kernel_rfl
 |7,_,K=>by kernel_rfl
 |8,_,K=>by kernel_rfl
 |9,_,K=>by kernel_rfl
 |k+10,h,_=>absurd h (by omega)
theorem bW(s:ByteArray)(k:Int)(h:(s==⟨#[48]⟩&&(decide (0<=k)&&decide (k<=9)))=true):aE Tryz.prog 206 [.str s,.int .i64 k] [] (.str (bytesOf (List.replicate k.toNat 48))) [] []:=by
 simp only [af,ak] at h
 obtain ⟨h1,h2,h3⟩:=h
 rw [lO,ci] at h1
 have:s=⟨#[48]⟩:=ep h1
 subst this
 obtain ⟨n,rfl⟩:=fq h2
 refine aS t3 5 fun _ _ K hK=> ?_
 rw [SG n (by omega)]
 exact hK
abbrev aH9 :FuncId:=133
def K2 :List (Nat×eI):=[(0,⟨[0,6,19,18,4,5],[],[],0,[]⟩)]
def B4(s:ByteArray)(n i:Int):St:=⟨[(0,.str s),(6,.int .i64 n),(19,.int .i64 i),(18,.int .i64 (s.size:Int)),(4,.int .i64 0),(5,.bool false)],[],0,[],35⟩
abbrev yR :List Nat:=[1,1,1,0,1,0]
noncomputable abbrev aEZ :Env:=fG K2 (fun _=>0) t3 1
theorem X2(K:KC)(s:ByteArray)(m:Int):cL K2 (fun _=>0) t3 2 aH9 [.str s,.int .i64 m] [] K=
  Br (s==⟨#[]⟩) (K (.tup [.int .i64 0,.bool false]) [] []) (Br (decide ((s.size:Int)>m)) (K (.tup [.int .i64 0,.bool false]) [] []) (∃n,aV aEZ (aA K2 0) Tryz.f133 yR 0 0 K n (B4 s 0 0))):=by kernel_rfl
theorem IL(K:Ex->St->Prop)(s:ByteArray)(n i:Int):aF aEZ (aA K2 0) Tryz.f133 yR 0 K (B4 s n i)=
  Br (decide (i<(s.size:Int))) (If (decide (0<=i)&&decide (i<(s.size:Int))) ((fun c=>Br (decide (c>9)) (K .ret (B4 s n i)) (K .normal (B4 s (IntKind.i64.wrap (IntKind.i64.wrap (10*n)+IntKind.i64.wrap c)) (IntKind.i64.wrap (i+1)))))
   (IntKind.u8.wrap (((s.data.getD i.toNat 0).toNat:Int) - 48)))) (K (.exit 0) (B4 s n i)):=by kernel_rfl
theorem aHv(K:KC)(s:ByteArray)(n i:Int):aB aEZ (aA K2 0) Tryz.f133 yR 0 K .ret (B4 s n i)=K (.tup [.int .i64 0,.bool false]) [] []:=by kernel_rfl
theorem aAI(K:KC)(s:ByteArray)(n i:Int):aB aEZ (aA K2 0) Tryz.f133 yR 0 K (.exit 0) (B4 s n i)=K (.tup [.int .i64 n,.bool true]) [] []:=by kernel_rfl
theorem PK(K:KC)(l:List Int)(hb:bH l)(hl:l.length<9223372036854775808): ∀(f:Nat) (i:Nat) (n:Int),i+f=l.length->K (.tup [.int .i64 ((HA n (l.drop i)).getD 0),.bool (HA n (l.drop i)).isSome]) [] []->
  aV aEZ (aA K2 0) Tryz.f133 yR 0 0 K (f+1) (B4 (bytesOf l) n i)
 |0,i,n,hi,hK=>by
  rw [dP,IL,aM]
  refine Br.of (fun c=> ?_) fun _=> ?_
  ·have:=aa c;omega
  ·show aB _ _ _ _ _ _ _ _
   rw [aAI]
   rw [List.drop_of_length_le (by omega)] at hK
   exact hK
 |f+1,i,n,hi,hK=>by
  have hlt:i<l.length:=by omega
  rw [dP,IL,aM]
  refine Br.of (fun c=>If.mk ?_ ?_) fun c=> ?_
  ·simp only [af,ak];omega
  ·show Br _ _ _
   rw [am,CC hb]
   have hd:l.drop i=l.getD i 0::l.drop (i+1):=by
    rw [dz hlt,bc,be hlt];rfl
   rw [hd] at hK
   unfold HA at hK
   have hc:IntKind.u8.wrap (l.getD i 0 - 48)=QZ (l.getD i 0):=rfl
   rw [hc]
   refine Br.of (fun e=> ?_) fun e=> ?_
   ·rw [e] at hK
    show aB _ _ _ _ _ _ _ _
    rw [aHv]
    exact hK
   ·rw [e] at hK
    rw [show IntKind.i64.wrap ((i:Int)+1)=((i+1:Nat):Int) by rw [fK];omega]
    show aV _ _ _ _ _ _ _ _ _
    exact PK K l hb hl f (i+1) _ (by omega) hK
  ·have:=ae c;omega
theorem hC(s:ByteArray)(m:Int):aE Tryz.prog aH9 [.str s,.int .i64 m] [] (.tup [.int .i64 (qL (aD s) m),.bool (nK (aD s) m)]) [] []:=
 eF K2 (fun _=>0) t3 2 (fun _ h=>nomatch h) fun ⟨hs,_⟩ _ K hK=>by
  have hs':s.size<9223372036854775808:=hs
  have hK:=hK [] fun _ h=>nomatch h
  rw [X2]
  unfold qL nK N8 at hK
  rw [cF] at hK
  have he:(s==⟨#[]⟩)=decide (s.size<1):=by
   have:=w6 (aD s)
   rw [fC,cF] at this
   exact this
  rw [he]
  refine Br.of (fun c=> ?_) fun c=>Br.of (fun d=> ?_) fun d=> ?_
  ·rw [c] at hK;exact hK
  ·rw [c,d] at hK;exact hK
  ·rw [c,d] at hK
   refine ⟨s.size+1, ?_⟩
   have:=PK K (aD s) (dJ s) (by rw [cF];exact hs') s.size 0 0 (by rw [cF];omega) hK
   rw [fC] at this
   exact this
noncomputable def b1 :bT Tryz.prog:=((((t4).add 132 (iU ET) (cE fun xs σ v σ' d h=>by
  unfold ET at h;split at h
  ·simp only [an,bn] at h
   obtain ⟨h1,rfl,rfl,rfl⟩:=h
   first|exact bC h1|exact bC _ h1|exact bC _ _ h1|exact bC _ _ _ h1|exact bC _ _ _ _ h1|exact bC _ _ _ _ _ h1|exact bC _ _ _ _ _ _ h1|exact bC _ _ _ _ _ _ _ h1|exact bC _ _ _ _ _ _ _ _ h1|exact bC _ _ _ _ _ _ _ _ _ h1|exact bC _ _ _ _ _ _ _ _ _ _ h1|exact bC _ _ _ _ _ _ _ _ _ _ _ h1|exact bC _ _ _ _ _ _ _ _ _ _ _ _ h1|exact bC (aa h1)|exact bC _ (aa h1)|exact bC _ _ (aa h1)|exact bC _ _ _ (aa h1)|exact bC _ _ _ _ (aa h1)|exact bC _ _ _ _ _ (aa h1)|exact bC _ _ _ _ _ _ (aa h1)|exact bC _ _ _ _ _ _ _ (aa h1)|exact bC _ _ _ _ _ _ _ _ (aa h1)|exact bC _ _ _ _ _ _ _ _ _ (aa h1)|exact bC _ _ _ _ _ _ _ _ _ _ (aa h1)|exact bC _ _ _ _ _ _ _ _ _ _ _ (aa h1)|exact bC _ _ _ _ _ _ _ _ _ _ _ _ (aa h1)
  ·cases h)).add 126 (iU aMx) (cE fun xs σ v σ' d h=>by
  unfold aMx at h;split at h
  ·simp only [an,bn] at h
   obtain ⟨h1,rfl,rfl,rfl⟩:=h
   first|exact fW h1|exact fW _ h1|exact fW _ _ h1|exact fW _ _ _ h1|exact fW _ _ _ _ h1|exact fW _ _ _ _ _ h1|exact fW _ _ _ _ _ _ h1|exact fW _ _ _ _ _ _ _ h1|exact fW _ _ _ _ _ _ _ _ h1|exact fW _ _ _ _ _ _ _ _ _ h1|exact fW _ _ _ _ _ _ _ _ _ _ h1|exact fW _ _ _ _ _ _ _ _ _ _ _ h1|exact fW _ _ _ _ _ _ _ _ _ _ _ _ h1|exact fW (aa h1)|exact fW _ (aa h1)|exact fW _ _ (aa h1)|exact fW _ _ _ (aa h1)|exact fW _ _ _ _ (aa h1)|exact fW _ _ _ _ _ (aa h1)|exact fW _ _ _ _ _ _ (aa h1)|exact fW _ _ _ _ _ _ _ (aa h1)|exact fW _ _ _ _ _ _ _ _ (aa h1)|exact fW _ _ _ _ _ _ _ _ _ (aa h1)|exact fW _ _ _ _ _ _ _ _ _ _ (aa h1)|exact fW _ _ _ _ _ _ _ _ _ _ _ (aa h1)|exact fW _ _ _ _ _ _ _ _ _ _ _ _ (aa h1)
  ·cases h)).add 206 (iU XI) (cE fun xs σ v σ' d h=>by
  unfold XI at h;split at h
  ·simp only [an,bn] at h
   obtain ⟨h1,rfl,rfl,rfl⟩:=h
   first|exact bW h1|exact bW _ h1|exact bW _ _ h1|exact bW _ _ _ h1|exact bW _ _ _ _ h1|exact bW _ _ _ _ _ h1|exact bW _ _ _ _ _ _ h1|exact bW _ _ _ _ _ _ _ h1|exact bW _ _ _ _ _ _ _ _ h1|exact bW _ _ _ _ _ _ _ _ _ h1|exact bW _ _ _ _ _ _ _ _ _ _ h1|exact bW _ _ _ _ _ _ _ _ _ _ _ h1|exact bW _ _ _ _ _ _ _ _ _ _ _ _ h1|exact bW (aa h1)|exact bW _ (aa h1)|exact bW _ _ (aa h1)|exact bW _ _ _ (aa h1)|exact bW _ _ _ _ (aa h1)|exact bW _ _ _ _ _ (aa h1)|exact bW _ _ _ _ _ _ (aa h1)|exact bW _ _ _ _ _ _ _ (aa h1)|exact bW _ _ _ _ _ _ _ _ (aa h1)|exact bW _ _ _ _ _ _ _ _ _ (aa h1)|exact bW _ _ _ _ _ _ _ _ _ _ (aa h1)|exact bW _ _ _ _ _ _ _ _ _ _ _ (aa h1)|exact bW _ _ _ _ _ _ _ _ _ _ _ _ (aa h1)
  ·cases h)).add 133 (one W6) (aT fun xs σ v σ' d h=>by
  unfold W6 at h;split at h<;>cases h;first|exact hC|exact hC _|exact hC _ _|exact hC _ _ _|exact hC _ _ _ _|exact hC _ _ _ _ _|exact hC _ _ _ _ _ _|exact hC _ _ _ _ _ _ _|exact hC _ _ _ _ _ _ _ _|exact hC _ _ _ _ _ _ _ _ _|exact hC _ _ _ _ _ _ _ _ _ _|exact hC _ _ _ _ _ _ _ _ _ _ _)
theorem TP(s:ByteArray)(K:KC):run b1 2 168 [.str s] [] K=Br (!nK (aD s) 10) (K (.tup [.int .i64 0,.bool false]) [] [])
  ((fun k=>If (true&&(decide (0<=k)&&decide (k<=9))) (If (decide (s.size+(bytesOf (List.replicate k.toNat 48)).size<9223372036854775808)) ((fun z=>K (.tup [.int .i64 (qL (aD z) 10),.bool (nK (aD z) 10)]) [] []) (s++bytesOf (List.replicate k.toNat 48)))))
   (IntKind.i64.wrap (10 - (s.size:Int)))):=by kernel_rfl
theorem lA(s:ByteArray):aE Tryz.prog 168 [.str s] [] (.tup [.int .i64 (xG (aD s)),.bool (E1 (aD s))]) [] []:=
 aS b1 2 fun _ _ K hK=>by
  rw [TP]
  unfold xG E1 at hK
  refine Br.of (fun c=> ?_) fun c=> ?_
  ·have:nK (aD s) 10=false:=by simpa using c
   rw [this] at hK;exact hK
  ·have hn:nK (aD s) 10=true:=by simpa using c
   obtain ⟨h1,h2⟩:=vY hn
   rw [cF] at h1 h2
   rw [hn] at hK
   have hk:IntKind.i64.wrap (10 - (s.size:Int))=((10 - s.size:Nat):Int):=by rw [fK];omega
   rw [hk]
   refine If.mk (by simp only [ch,af,ak];omega) (If.mk ?_ ?_)
   ·rw [aM,List.length_replicate]
    exact ao (by omega)
   ·have hz:aD (s++bytesOf (List.replicate (((10 - s.size:Nat):Int)).toNat 48))=G2 (aD s):=by
     conv=>lhs;rw [<- fC s]
     rw [bQ,fC,cX (VM (dJ s) _)]
     unfold G2
     rw [cF,am]
    show K (.tup [.int .i64 (qL (aD (s++bytesOf (List.replicate (((10 - s.size:Nat):Int)).toNat 48))) 10),.bool (nK (aD (s++bytesOf (List.replicate (((10 - s.size:Nat):Int)).toNat 48))) 10)]) [] []
    rw [hz]
    exact hK
noncomputable def b2 :bT Tryz.prog:=(b1).add 168 (one aHW) (aT fun xs σ v σ' d h=>by
  unfold aHW at h;split at h<;>cases h;first|exact lA|exact lA _|exact lA _ _|exact lA _ _ _|exact lA _ _ _ _|exact lA _ _ _ _ _|exact lA _ _ _ _ _ _|exact lA _ _ _ _ _ _ _|exact lA _ _ _ _ _ _ _ _|exact lA _ _ _ _ _ _ _ _ _|exact lA _ _ _ _ _ _ _ _ _ _|exact lA _ _ _ _ _ _ _ _ _ _ _)
theorem U5(s:ByteArray)(K:KC):run b2 3 129 [.str s] [] K=rdP s K:=by kernel_rfl
end Go.Proofs.YtghnfjfkjhbgdaaGreatDoor
namespace Go.Se
theorem TH{a:Int}(h0:0<=a)(h1:a<=255):QZ a>9↔ ¬(48<=a/\a<=57):=by
 unfold QZ
 rw [show IntKind.u8.wrap (a - 48)=(a - 48)%256 from rfl]
 omega
theorem H8 : ∀(l:List Int) (n:Int),bH l->(HA n l).isSome=true->zE l
 | [],_,_,_=>fun x hx=>by cases hx
 |a::l,n,hb,h=>by
  unfold HA at h
  have ha:=hb a (bq ..)
  cases hd:decide (QZ a>9) with
  |true=>rw [hd] at h;cases h
  |false=>
   rw [hd] at h
   have hd:=ae hd
   rw [TH ha.1 ha.2,Decidable.not_not] at hd
   intro x hx
   rcases cb.1 hx with rfl|hx
   ·exact hd
   ·exact H8 l _ (fun y hy=>hb y (bm _ hy)) h x hx
theorem CJ{l:List Int}{m:Int}(hb:bH l)(h:nK l m=true):zE l:=by
 unfold nK at h
 cases hg:N8 l m with
 |true=>rw [hg] at h;cases h
 |false=>rw [hg] at h;exact H8 l 0 hb h
theorem K1 : ∀(l:List Int) (n:Int) (k:Nat),zE l->0<=n->n<10^k->0<=uM n l/\uM n l<10^(k+l.length)
 | [],n,k,_,h0,h1=>⟨h0,h1⟩
 |a::l,n,k,hd,h0,h1=>by
  have ha:=hd a (bq ..)
  have hp:(10:Int)^(k+1)=10^k*10:=fi 10 k
  have:=K1 l (10*n+(a - 48)) (k+1) (fun x hx=>hd x (bm _ hx)) (by omega) (by omega)
  rw [az,show k+(l.length+1)=k+1+l.length by omega]
  exact this
theorem DO{l:List Int}{m:Int}(hb:bH l)(hm:m<=18)(h:nK l m=true):qL l m=uM 0 l/\0<=qL l m/\qL l m<10^l.length:=by
 have hd:=CJ hb h
 have hl:=vY h
 obtain ⟨_,h2⟩:=AP (most:=m) hd hl.1 hl.2 (by omega)
 have h3:=K1 l 0 0 hd (by decide) (by decide)
 rw [bi] at h3
 rw [h2]
 exact ⟨rfl,h3⟩
theorem O2{a b:Nat}(h:a<=b):(10:Int)^a<=10^b:=by
 have:=Nat.pow_le_pow_right (n:=10) (by decide) h
 exact_mod_cast this
def sS(l:List Int):Bool:=bif nK (eM 46 (dN l)) 10 then (bif iN 46 (dN l) then E1 (kF 46 (dN l)) else true) else false
def zK(l:List Int):Int:=bif iN 46 (dN l) then xG (kF 46 (dN l)) else 0
def uE(l:List Int):Int:=qL (eM 46 (dN l)) 10*4294967296+nY (zK l*4294967296) 10000000000
def I5(l:List Int):Int:=bif mG l then -uE l else uE l
def wB(l:List Int):Int:=bif sS l then (bif oL (I5 l) then 0 else 2) else 24
def u9(l:List Int):Int:=bif sS l&&oL (I5 l) then I5 l else 0
def kL(l:List Int):Int:=bif nK (dN l) 18 then 0 else 24
def g9(l:List Int):Int:=bif nK (dN l) 18 then (bif mG l then -qL (dN l) 18 else qL (dN l) 18) else 0
theorem nP{l:List Int}(h:bH l):bH (dN l):=fun x hx=>by
 unfold dN at hx
 cases hm:mG l with
 |true=>rw [hm] at hx;exact h x (List.mem_of_mem_tail hx)
 |false=>rw [hm] at hx;exact h x hx
theorem NK(c:Int): ∀(l:List Int) (x:Int),x∈eM c l->x∈l
 | [],_,h=>by cases h
 |a::l,x,h=>by
  unfold eM at h
  cases ha:a==c with
  |true=>rw [ha] at h;cases h
  |false=>
   rw [ha] at h
   rcases cb.1 h with rfl|h
   ·exact bq ..
   ·exact bm _ (NK c l x h)
theorem MX(c:Int): ∀(l:List Int) (x:Int),x∈kF c l->x∈l
 | [],_,h=>by cases h
 |a::l,x,h=>by
  unfold kF at h
  cases ha:a==c with
  |true=>rw [ha] at h;exact bm _ h
  |false=>rw [ha] at h;exact bm _ (MX c l x h)
theorem uS{c:Int}{l:List Int}(h:bH l):bH (eM c l):=fun x hx=>h x (NK c l x hx)
theorem vS{c:Int}{l:List Int}(h:bH l):bH (kF c l):=fun x hx=>h x (MX c l x hx)
theorem RQ{l:List Int}(hb:bH l):0<=xG l/\xG l<10000000000:=by
 unfold xG
 cases h:nK l 10 with
 |false=>simp
 |true=>
  have hd:=CJ hb h
  have hl:=vY h
  have hp:zE (G2 l):=fun x hx=>by
   unfold G2 at hx
   rcases ct.1 hx with hx|hx
   ·exact hd x hx
   ·rw [List.eq_of_mem_replicate hx];omega
  have hlen:(G2 l).length=10:=by unfold G2;rw [au,List.length_replicate];omega
  have h2:=(AP (most:=10) hp (by omega) (by omega) (by omega)).2
  have h3:=K1 (G2 l) 0 0 hp (by decide) (by decide)
  rw [hlen] at h3
  simp only [ar]
  rw [h2]
  exact ⟨h3.1,h3.2⟩
theorem TY{f:Int}(h0:0<=f)(h1:f<10000000000):0<=nY (f*4294967296) 10000000000/\nY (f*4294967296) 10000000000<=4294967296:=by
 have hp:0<=f*4294967296:=by omega
 have hr:=IK _ hp
 have hn:yE (f*4294967296) 10000000000=iY (f*4294967296) 10000000000:=by
  unfold yE
  rw [show aQ (f*4294967296)=f*4294967296 by unfold aQ;rw [aj (show¬f*4294967296<0 by omega)];rfl,show aQ 10000000000=10000000000 by decide,
   aj (show¬f*4294967296<0 by omega)];rfl
 unfold nY i4
 rw [hn,show ((10000000000:Int) !=0&&oL (iY (f*4294967296) 10000000000))=true by rw [(kM _).2 (by omega)];rfl]
 simp only [ar]
 omega
theorem CE{l:List Int}(hb:bH l):0<=zK l/\zK l<10000000000:=by
 unfold zK
 cases iN 46 (dN l) with
 |false=>simp
 |true=>exact RQ (vS (nP hb))
theorem NH{l:List Int}(hb:bH l)(h:sS l=true):0<=uE l/\uE l<=42949672960000000000:=by
 have hn:nK (eM 46 (dN l)) 10=true:=by
  unfold sS at h
  cases hn:nK (eM 46 (dN l)) 10 with
  |true=>rfl
  |false=>rw [hn] at h;cases h
 obtain ⟨_,h1,h2⟩:=DO (uS (nP hb)) (by decide) hn
 have h3:=vY hn
 have h4:=O2 (show (eM 46 (dN l)).length<=10 by omega)
 obtain ⟨f0,f1⟩:=CE hb
 obtain ⟨g0,g1⟩:=TY f0 f1
 unfold uE
 omega
theorem VW {Z:Int} {K:KC} (h0: -170141183460469231731687303715884105728<=Z) (h1:Z<=170141183460469231731687303715884105727)
  (hK:K (.tup [.int .i64 (bif oL Z then Z else 0),.int .i64 (bif oL Z then 0 else 2)]) [] []):rdF Z K:=by
 unfold rdF
 have hd: ∀x:Int,x.fdiv (2^min (63:Int).toNat IntKind.i64.bits)=x/9223372036854775808:=fun x=>by
  show x.fdiv 9223372036854775808=_
  exact kP _ (by decide)
 rw [hd]
 cases hz:oL Z with
 |true=>
  rw [kM] at hz
  have hw:IntKind.i64.wrap (Z%18446744073709551616)=Z:=by rw [fK];omega
  rw [hw]
  rw [(kM Z).2 hz] at hK
  refine Br.of (fun c=> ?_) fun _=>hK
  have:=ei.1 c
  omega
 |false=>
  rw [hz] at hK
  rw [<- Bool.not_eq_true,kM] at hz
  refine Br.of (fun _=>hK) fun c=> ?_
  rw [dt,fK] at c
  omega
theorem aDT{s:ByteArray}{K:KC}(hK:K (.tup [.int .i64 (u9 (aD s)),.int .i64 (wB (aD s))]) [] []):rdP s K:=by
 have hb:=dJ s
 generalize hl:aD s=l at hK hb
 unfold rdP
 rw [hl]
 have hmb:=nP hb
 rw [UR hmb]
 show rdR _ _ _ _ _ _ _
 rw [UR (uS hmb),UR (vS hmb)]
 have hR:=NH (l:=l) hb
 have main:sS l=true->rdW (mG l) (qL (eM 46 (dN l)) 10) (zK l) K:=by
  intro hok
  obtain ⟨r0,r1⟩:=hR hok
  obtain ⟨f0,f1⟩:=CE hb
  have hin: ∀x:Int,-42949672960000000001<x->x<42949672960000000001->dG x=true:=fun x a b=>(jU x).2 (by omega)
  unfold rdW
  rw [tE]
  show Br _ _ _
  have hX:rdA (qL (eM 46 (dN l)) 10*4294967296) (nY (zK l*4294967296) 10000000000)=uE l:=by
   unfold rdA
   rw [tE,tE,hin _ (by unfold uE at r0;omega) (by unfold uE at r1;omega)];rfl
  rw [hX]
  unfold u9 wB I5 at hK
  rw [hok] at hK
  refine Br.of (fun c=> ?_) fun c=> ?_
  ·rw [c] at hK
   have:rdM (uE l)= -uE l:=by
    unfold rdM
    rw [tE,hin _ (by omega) (by omega)];rfl
   rw [this]
   exact VW (by omega) (by omega) hK
  ·rw [c] at hK
   exact VW (by omega) (by omega) hK
 unfold rdR rdQ
 unfold sS zK at main
 unfold wB u9 sS at hK
 refine Br.of (fun c=> ?_) fun c=> ?_
 ·rw [c] at main hK
  refine Br.of (fun d=> ?_) fun d=> ?_
  ·rw [d] at main hK
   refine Br.of (fun e=> ?_) fun e=> ?_
   ·rw [dg] at e
    rw [e] at hK;exact hK
   ·rw [dr] at e
    exact main e
  ·rw [d] at main
   exact Br.of (fun e=>by rw [c] at e;cases e) fun _=>main rfl
 ·rw [c] at hK
  exact Br.of (fun _=>hK) fun e=>by rw [c] at e;cases e
def xT(a:Int):Bool:=a==32||a==9
def mC :List Int->List Int->List (List Int)
 |w,[]=>bif w.isEmpty then [] else [w]
 |w,a::l=>bif xT a then (bif w.isEmpty then mC [] l else w::mC [] l) else mC (w++[a]) l
def cH(l:List Int):List (List Int):=mC [] (eM 35 l)
def pQ(c:Int):List Int->List Int->List (List Int)
 |w,[]=>[w]
 |w,a::l=>bif a==c then w::pQ c [] l else pQ c (w++[a]) l
def qY :List Int->List Int
 | []=>[]
 | [a]=>bif a==10 then [] else [a]
 |a::l=>a::qY l
def lnR :List Int->List Int->List (List Int)
 |w,[]=>bif w.isEmpty then [] else [w]
 |w,a::l=>bif a==10 then w::lnR [] l else lnR (w++[a]) l
def fR(l:List Int):List (List Int):=lnR [] l
theorem aB4 : ∀(l w:List Int),l≠[]->pQ 10 w (qY l)=lnR w l
 | [],_,h=>absurd rfl h
 | [a],w,_=>by
  unfold qY lnR
  cases h:a==10 with
  |true=>rfl
  |false=>simp only [ap];unfold pQ;rw [h];show [w++[a]]=lnR (w++[a]) [];unfold lnR;cases w<;>rfl
 |a::b::l,w,_=>by
  have ih:=fun w=>aB4 (b::l) w (by simp)
  show pQ 10 w (a::qY (b::l))=_
  unfold pQ lnR
  rw [ih,ih]
theorem wW : ∀(m w r:List Int),(∀x,x∈m->xT x=false)->mC w (m++r)=mC (w++m) r
 | [],w,r,_=>by simp
 |a::m,w,r,h=>by
  rw [gk]
  conv=>lhs;unfold mC
  rw [h a (bq ..),ap,wW m (w++[a]) r fun x hx=>h x (bm _ hx),bo];rfl
theorem NE(c:Int): ∀(l w:List Int),pQ c w l=bif iN c l then (w++eM c l)::pQ c [] (kF c l) else [w++l]
 | [],w=>by simp [pQ,iN]
 |a::l,w=>by
  have ih:=NE c l (w++[a])
  show (bif a==c then w::pQ c [] l else pQ c (w++[a]) l)=bif (a==c||iN c l) then (w++bif a==c then [] else a::eM c l)::pQ c [] (bif a==c then l else kF c l) else [w++a::l]
  cases h:a==c with
  |true=>simp
  |false=>
   simp only [ap,gx]
   rw [ih]
   cases iN c l<;>simp
theorem yQ(c:Int): ∀(l w:List Int),(pQ c w l).length=l.countP (· ==c)+1
 | [],w=>rfl
 |a::l,w=>by
  unfold pQ
  cases h:a==c with
  |true=>simp only [ar,az,yQ c l];rw [List.countP_cons_of_pos (by simpa using h)]
  |false=>simp only [ap,yQ c l];rw [List.countP_cons_of_neg (by simpa using h)]
theorem aDK{s:ByteArray}{p:Nat}(h:p<s.size):(s.get! p).toNat=(s.data.getD p 0).toNat:=by
 have h':p<s.data.size:=h
 show (s.data[p]!).toNat=_
 rw [getElem!_pos s.data p h',bv,cl h'];rfl
theorem K6(s:ByteArray)(p:Nat)(h:p<s.size):
  1<=(Utf8.decode s p).2/\p+(Utf8.decode s p).2<=s.size/\
  ((s.data.getD p 0).toNat<128->Utf8.decode s p=((s.data.getD p 0).toNat,1))/\(128<=(s.data.getD p 0).toNat->128<=(Utf8.decode s p).1)/\
  ∀j,0<j->j<(Utf8.decode s p).2->128<=(s.data.getD (p+j) 0).toNat:=by
 have e0:(s.get! (p+0)).toNat=(s.data.getD p 0).toNat:=aDK h
 have eh:s[p]'h=s.data.getD p 0:=by
  rw [bv,cl (show p<s.data.size from h)];rfl
 have hc: ∀k,(decide (p+k<s.size)&&((s.get! (p+k)).toNat/64==2))=true->p+k<s.size/\128<=(s.data.getD (p+k) 0).toNat:=by
  intro k hk
  simp only [af,ak,ci] at hk
  have:=aDK hk.1
  exact ⟨hk.1,by omega⟩
 have key: ∀c w,Utf8.decode s p=(c,w)->1<=w/\p+w<=s.size/\ ∀j,0<j->j<w->128<=(s.data.getD (p+j) 0).toNat:=by
  intro c w hw
  unfold Utf8.decode at hw
  simp only at hw
  have one: ∀c':Nat,(c',1)=(c,w)->1<=w/\p+w<=s.size/\ ∀j,0<j->j<w->128<=(s.data.getD (p+j) 0).toNat:=by
   intro c' hh;cases hh;exact ⟨av _,h,fun j h1 h2=>by omega⟩
  split at hw
  ·exact one _ hw
  ·split at hw
   ·rename_i _ h2
    simp only [af] at h2
    have a1:=hc 1 (by simpa using h2.2)
    split at hw
    ·cases hw
     refine ⟨by omega,by omega,fun j j1 j2=> ?_⟩
     obtain rfl:j=1:=by omega
     exact a1.2
    ·exact one _ hw
   ·split at hw
    ·rename_i _ _ h2
     simp only [af] at h2
     have a1:=hc 1 (by simpa using h2.1.2)
     have a2:=hc 2 (by simpa using h2.2)
     split at hw
     ·cases hw
      refine ⟨by omega,by omega,fun j j1 j2=> ?_⟩
      have:j=1\/j=2:=by omega
      rcases this with rfl|rfl
      ·exact a1.2
      ·exact a2.2
     ·exact one _ hw
    ·split at hw
     ·rename_i _ _ _ h2
      simp only [af] at h2
      have a1:=hc 1 (by simpa using h2.1.1.2)
      have a2:=hc 2 (by simpa using h2.1.2)
      have a3:=hc 3 (by simpa using h2.2)
      split at hw
      ·cases hw
       refine ⟨by omega,by omega,fun j j1 j2=> ?_⟩
       have:j=1\/j=2\/j=3:=by omega
       rcases this with rfl|rfl|rfl
       ·exact a1.2
       ·exact a2.2
       ·exact a3.2
      ·exact one _ hw
     ·exact one _ hw
 obtain ⟨k1,k2,k3⟩:=key _ _ rfl
 refine ⟨k1,k2,fun ha=> ?_,fun ha=> ?_,k3⟩
 ·have:=decode_ascii s p h (by rw [eh];exact ha)
  rw [this,eh]
 ·exact (decode_high s p h (by rw [eh];exact ha)).1
variable {P:Program}
theorem iP{ρ:aL}{T:Nat->Prop}{w:World}{st:Nat}{g:Nat->List SV}{v:Value}(hv:rel ρ T w .nils v):rel ρ T w (.ro 0 st g) v:=by
 have h:v= .slice none 0 0:=hv
 exact ⟨none,0,h,⟨av _,by decide,fun _=>rfl⟩,fun h0=>absurd h0 (gy 0)⟩
theorem aF7.mono{k:FuncId}{vals:Array Value}{w:World}{R R':Value->World->Prop}(h:aF7 P k vals w R)(hR: ∀x w',R x w'->R' x w'):aF7 P k vals w R':=by
 rcases h with ⟨fn,h1,h2,h3,h4⟩|⟨x,w',h1,h2⟩
 ·exact .inl ⟨fn,h1,h2,h3,h4.mono fun e w' ⟨x,h5,h6⟩=>⟨x,h5,hR x w' h6⟩⟩
 ·exact .inr ⟨x,w',h1,hR x w' h2⟩
theorem sR{k:FuncId}{xs:List SV}{n st e:Nat}{g g':Nat->List SV}(hg: ∀i,i<n->g i=g' i/\(g' i).length=st)(h:aE P k xs [] (.own 0 0 st n) [some (.row e st n g)] []):aE P k xs [] (.ro n st g') [] []:=by
 intro ρ T w vals h1 h2 h3 h4
 refine (h ρ T w vals h1 h2 h3 h4).mono fun x w' ⟨ρ',T',hd⟩=> ?_
 obtain ⟨b,c,r1,rfl,r2,r3,_⟩:=hd.val
 obtain ⟨b',r4,r5,vs,r6,r7,r8⟩:=hd.store 0 _ rfl
 rw [r1] at r4;cases r4
 have hρ: ∀p,ρ p=none:=fun p=>by
  cases hp:ρ p with
  |none=>rfl
  |some b=>exact absurd (h4 p b hp).1 (dn _)
 have hnew:w.heap.size<=b:=by
  rcases hd.fresh 0 b (av _) r1 with h|⟨q,hq,_⟩
  ·exact h
  ·cases hq
 refine ⟨fun _=>none,fun c=>T' c/\c≠b,{
  names:=fun p b hp=>by rw [hρ] at hp;cases hp
  only:=fun p b hp=>by cases hp
  len:=av _
  val:= ?_
  store:=fun p sb hp=>by simp at hp
  fresh:=fun p b _ hp=>by cases hp
  inj:=fun p q b _ _ hp=>by cases hp
  dirty:=fun p hp=>by cases hp
  grow:=hd.grow
  tback:=fun c hc ht=>hd.tback c hc ht.1
  below:=fun p b hp=>by cases hp
  tkeep:=fun c hc ht=>by
   rcases hd.tkeep c hc ht with h|⟨q,hq,_⟩
   ·exact .inl ⟨h,by omega⟩
   ·cases hq}⟩
 refine ⟨some ⟨b,0*st,none⟩,c,rfl,⟨r2,by omega,fun he=>by cases he⟩,fun _=>⟨b,0,by rw [ce],(bk.1 r6).1,fun ht=>ht.2 rfl,fun i hi=> ?_⟩⟩
 obtain ⟨e1,e2⟩:=hg i hi
 rw [<- e1]
 have hr:=bB (T':=fun c=>T' c/\c≠b) (fun _ _ h=>h) (fun _ _ h=>h.1) (bG.refl T' w') _ _ (r8 i hi)
 rw [bi]
 refine eV hr fun j u hj=> ?_
 rw [fF r6]
 rw [br] at hj
 split at hj
 ·rw [bu] at hj
  simpa using hj
 ·cases hj
theorem oB{k:FuncId}{xs:List SV}{σ σ':List (Option SB)}{d:List Nat}{st:Nat}{g:Nat->List SV}(h:aE P k xs σ .nils σ' d):aE P k xs σ (.ro 0 st g) σ' d:=
 fun ρ T w vals h1 h2 h3 h4=>(h ρ T w vals h1 h2 h3 h4).mono fun _ _ ⟨ρ',T',hd⟩=>⟨ρ',T',{hd with val:=iP hd.val}⟩
theorem sY{k:FuncId}{xs:List SV}{σ σ':List (Option SB)}{d:List Nat}{v v':SV}(hv: ∀ρ T w x,rel ρ T w v x->rel ρ T w v' x)(h:aE P k xs σ v σ' d):aE P k xs σ v' σ' d:=
 fun ρ T w vals h1 h2 h3 h4=>(h ρ T w vals h1 h2 h3 h4).mono fun _ _ ⟨ρ',T',hd⟩=>⟨ρ',T',{hd with val:=hv _ _ _ _ hd.val}⟩
theorem KT{k:FuncId}{xs:List SV}{st:Nat}{sb:SB}{g:Nat->List SV}(h:aE P k xs [] (.arr 0 0 0 0) [some sb] []):aE P k xs [] (.ro 0 st g) [] []:=by
 intro ρ T w vals h1 h2 h3 h4
 refine (h ρ T w vals h1 h2 h3 h4).mono fun x w' ⟨ρ',T',hd⟩=> ?_
 obtain ⟨⟨b,r1,rfl⟩,r2⟩:=hd.val
 have hρ: ∀p,ρ p=none:=fun p=>by
  cases hp:ρ p with
  |none=>rfl
  |some b=>exact absurd (h4 p b hp).1 (dn _)
 refine ⟨fun _=>none,T',{
  names:=fun p b hp=>by rw [hρ] at hp;cases hp
  only:=fun p b hp=>by cases hp
  len:=av _
  val:=⟨_,_,rfl,⟨av _,r2,fun he=>by cases he⟩,fun h0=>absurd h0 (gy 0)⟩
  store:=fun p sb hp=>by simp at hp
  fresh:=fun p b _ hp=>by cases hp
  inj:=fun p q b _ _ hp=>by cases hp
  dirty:=fun p hp=>by cases hp
  grow:=hd.grow
  tback:=hd.tback
  below:=fun p b hp=>by cases hp
  tkeep:=fun c hc ht=>by
   rcases hd.tkeep c hc ht with h|⟨q,hq,_⟩
   ·exact .inl h
   ·cases hq}⟩
theorem UO{k:FuncId}{st st':Nat}{g g':Nat->List SV}{sb:SB}(h0:aE P k [.nils] [] .nils [] [])(h1:aE P k [.emp] [] (.arr 0 0 0 0) [some sb] []):
  aE P k [.ro 0 st g] [] (.ro 0 st' g') [] []:=by
 intro ρ T w vals hv h2 h3 h4
 obtain ⟨v,r,hvs,hr,hl⟩:=hv
 obtain ⟨a,c,rfl,⟨_,_,hc⟩,_⟩:=hr
 cases a with
 |none=>
  rw [hc rfl] at hvs
  exact oB h0 ρ T w vals ⟨_,r,hvs,rfl,hl⟩ h2 h3 h4
 |some a=>exact KT h1 ρ T w vals ⟨_,r,hvs,⟨a,c,rfl⟩,hl⟩ h2 h3 h4
theorem tF {k:FuncId} {n st e:Nat} {g:Nat->List SV} (hg: ∀i,i<n->(g i).length=st) (hn:0<n->aE P k [.ro n st g] [] (.own 0 0 st n) [some (.row e st n g)] [])
  (h0:aE P k [.nils] [] .nils [] []) (h1:aE P k [.emp] [] (.arr 0 0 0 0) [some (.cells e [])] []):aE P k [.ro n st g] [] (.ro n st g) [] []:=by
 rcases Nat.eq_zero_or_pos n with rfl|h
 ·exact UO h0 h1
 ·exact sR (fun i hi=>⟨rfl,hg i hi⟩) (hn h)
theorem pM{k:FuncId}{xs:List SV}{σ:List (Option SB)}{Φ:KC->Prop}(hΦ: ∀K,Φ K-> ∃v σ' d,K v σ' d)(h:okL xs->okS σ->Sat P k xs σ Φ):Sat P k xs σ Φ:=fun K hK=>by
 by_cases h1:okL xs/\okS σ
 ·exact h h1.1 h1.2 K hK
 ·obtain ⟨v,σ',d,hv⟩:=hΦ K hK
  exact ⟨v,σ',d,hv,pI fun h2 h3=>absurd ⟨h2,h3⟩ h1⟩
end Go.Se
namespace Go.Se
variable {env:Env} {W:Nat->St->Option St} {fn:Func} {path:List Nat} {blk:Nat} {KK:Ex->St->Prop}
abbrev gM(X:St->Prop)(KK:Ex->St->Prop):Ex->St->Prop:=fun e s=>match e with
 | .normal=>X s
 |e=>KK e s
theorem iH {A:Type} (S:A->St) (m:A->Nat) (I:A->Prop)
  (hr: ∀a,I a-> ∀X:St->Prop,(∀a',I a'->m a'<m a->X (S a'))->aF env W fn path blk (gM X KK) (S a)):
  ∀(f:Nat) (a:A),I a->m a<f->iter (aF env W fn path blk) KK f (S a)
 |0,_,_,h=>absurd h (dn _)
 |f+1,a,ha,h=>by
  show aF env W fn path blk (gM (iter (aF env W fn path blk) KK f) KK) (S a)
  exact hr a ha _ fun a' ha' hm=>iH S m I hr f a' ha' (dm hm (Nat.le_of_lt_succ h))
theorem j8 (S:Nat->St) (len:Nat) (I:Nat->Prop)
  (hr: ∀i,i<len->I i-> ∀X:St->Prop,(I (i+1)->X (S (i+1)))->aF env W fn path blk (gM X KK) (S i))
  (he:I len-> ∀X:St->Prop,aF env W fn path blk (gM X KK) (S len)) (h0:I 0):
  iter (aF env W fn path blk) KK (len+1) (S 0):=
 iH (fun a:Nat=>S a) (fun a=>len - a) (fun a=>a<=len/\I a) (fun a ⟨h1,h2⟩ X hX=>by
  rcases ia h1 with h|rfl
  ·exact hr a h h2 X fun h3=>hX (a+1) ⟨h,h3⟩ (by omega)
  ·exact he h2 X) (len+1) 0 ⟨cn _,h0⟩ (by omega)
theorem aK{i n:Nat}(hi:i<n)(hn:n<9223372036854775808):IntKind.i64.wrap ((i:Int)+1)=((i+1:Nat):Int):=by
 rw [IntKind.wrap_i64];omega
def mD(p:Nat->Bool):Nat->Nat->Int
 |0,_=> -1
 |f+1,i=>bif p i then (i:Int) else mD p f (i+1)
def dO(p:Nat->Bool)(n:Nat):Bool:=decide (mD p n 0>=0)
theorem M2{p:Nat->Bool}: ∀{f i:Nat},mD p f i<0↔ ∀j,i<=j->j<i+f->p j=false
 |0,i=>⟨fun _ j h1 h2=>by omega,fun _=>by unfold mD;decide⟩
 |f+1,i=>by
  unfold mD
  cases h:p i
  ·simp only [ap]
   rw [M2]
   exact ⟨fun h1 j h2 h3=>by
    rcases Nat.eq_or_lt_of_le h2 with rfl|h4
    ·exact h
    ·exact h1 j h4 (by omega),fun h1 j h2 h3=>h1 j (by omega) (by omega)⟩
  ·simp only [ar]
   exact ⟨fun h1=>by omega,fun h1=>by have:=h1 i (av _) (by omega);rw [h] at this;cases this⟩
theorem PS{p:Nat->Bool}: ∀{f i:Nat},0<=mD p f i-> ∃k:Nat,mD p f i=(k:Int)/\i<=k/\k<i+f/\p k=true/\ ∀j,i<=j->j<k->p j=false
 |0,i,h=>by unfold mD at h;omega
 |f+1,i,h=>by
  unfold mD at h|-
  cases hp:p i
  ·rw [hp] at h
   simp only [ap] at h|-
   obtain ⟨k,h1,h2,h3,h4,h5⟩:=PS h
   refine ⟨k,h1,by omega,by omega,h4,fun j h6 h7=> ?_⟩
   rcases Nat.eq_or_lt_of_le h6 with rfl|h8
   ·exact hp
   ·exact h5 j h8 h7
  ·exact ⟨i,rfl,av _,by omega,hp,fun j h1 h2=>by omega⟩
theorem iS{p:Nat->Bool}{n:Nat}:dO p n=true↔ ∃i,i<n/\p i=true:=by
 unfold dO
 rw [ak]
 constructor
 ·intro h
  obtain ⟨k,_,_,h3,h4,_⟩:=PS h
  exact ⟨k,by omega,h4⟩
 ·rintro ⟨i,h1,h2⟩
  refine Int.not_lt.1 fun h=> ?_
  have:=M2.1 h i (cn _) (by omega)
  rw [h2] at this;cases this
theorem e9{p:Nat->Bool}{n:Nat}:dO p n=false↔ ∀i,i<n->p i=false:=by
 rw [<- Bool.not_eq_true,iS]
 exact ⟨fun h i hi=>by
  cases hp:p i
  ·rfl
  ·exact absurd ⟨i,hi,hp⟩ h,fun h ⟨i,hi,hp⟩=>by rw [h i hi] at hp;cases hp⟩
theorem pP {n0:Nat} {K:KC} {σ:List (Option SB)} (S:Int->Int->St) (n:Nat) (hn:n<9223372036854775808) (p:Nat->Bool)
  (hround: ∀(K:Ex->St->Prop) (i:Nat),aF env W fn path 0 K (S 0 i)=Br (decide ((i:Int)<n)) (If (decide (0<=(i:Int))&&decide ((i:Int)<n)) (Br (p i) (K .ret (S i i)) (K .normal (S 0 (IntKind.i64.wrap (i+1)))))) (K (.exit 0) (S 0 i)))
  (hret: ∀r i:Int,aB env W fn path n0 K .ret (S r i)=K (.int .i64 r) σ [])
  (hafter: ∀i:Int,aB env W fn path n0 K (.exit 0) (S 0 i)=K (.int .i64 (-1)) σ [])
  (hK:K (.int .i64 (mD p n 0)) σ []): ∃k,aV env W fn path 0 n0 K k (S 0 0):=by
 refine ⟨n+1,j8 (fun i:Nat=>S 0 i) n (fun i=>K (.int .i64 (mD p (n - i) i)) σ []) (fun i hi hI X hX=> ?_) (fun hI X=> ?_) (by rw [dk];exact hK)⟩
 ·rw [hround]
  refine Br.of (fun _=>If.mk (by simp only [af,ak];omega) (Br.of (fun c=> ?_) fun c=> ?_)) fun c=>absurd (ae c) (by omega)
  ·rw [show n - i=(n - (i+1))+1 by omega] at hI
   unfold mD at hI;rw [c] at hI
   show aB env W fn path n0 K .ret (S i i)
   rw [hret];exact hI
  ·rw [show n - i=(n - (i+1))+1 by omega] at hI
   unfold mD at hI;rw [c] at hI
   show X _
   rw [aK hi hn];exact hX hI
 ·rw [hround]
  refine Br.of (fun c=>absurd (aa c) (by omega)) fun _=> ?_
  show aB env W fn path n0 K (.exit 0) (S 0 n)
  rw [hafter]
  rw [Nat.sub_self] at hI;exact hI
theorem iR (S:Nat->St) (n:Nat) (p:Nat->Bool) (HIT:Nat->Prop) (END:Prop)
  (hr: ∀i,i<n-> ∀X:St->Prop,(p i=true->HIT i)->(p i=false->X (S (i+1)))->aF env W fn path blk (gM X KK) (S i))
  (he: ∀X:St->Prop,END->aF env W fn path blk (gM X KK) (S n))
  (hh: ∀i,i<n->p i=true->(∀j,j<i->p j=false)->HIT i) (hd:(∀j,j<n->p j=false)->END): ∃q,iter (aF env W fn path blk) KK q (S 0):=
 ⟨n+1,j8 S n (fun i=> ∀j,j<i->p j=false) (fun i hi hI X hX=>hr i hi X (fun h=>hh i hi h hI) fun h=>hX fun j hj=>by
  rcases ia (Nat.le_of_lt_succ hj) with hj|rfl
  ·exact hI j hj
  ·exact h) (fun hI X=>he X (hd hI)) fun j hj=>absurd hj (dn j)⟩
theorem eA{i n:Nat}{P:Prop}(hi:i<n)(h:(decide (0<=(i:Int))&&decide ((i:Int)<(n:Int)))=false):P:=by
 simp only [bf,aw] at h;omega
theorem iI{i n:Nat}{P:Prop}(hi:i<n)(h:decide ((i:Int)<(n:Int))=false):P:=by
 have:=ae h;omega
theorem g7{n:Nat}{P:Prop}(h:decide ((n:Int)<(n:Int))=true):P:=by
 have:=aa h;omega
end Go.Se
namespace Go.Se
variable {P:Program}
def bU{α:Type}(e st id:Nat)(f:α->List SV)(L:List α)(o:SV)(b:Option SB):Prop:=
 (L=[]/\o= .nils/\b=none)\/(∃g,L≠[]/\o= .own id 0 st L.length/\b=some (.row e st L.length g)/\ ∀j (h:j<L.length),g j=f L[j])
theorem lS{α:Type}{e st id:Nat}{f:α->List SV}:bU e st id f [] .nils none:= .inl ⟨rfl,rfl,rfl⟩
theorem J7{st:Nat}{c:List SV}(h:c.length=st):cut c (0*st) st=c:=by
 unfold cut;rw [ce,gq,<- h,gz]
theorem eT{α:Type}{e st id:Nat}{f:α->List SV}{x:α}{c:List SV}(hc:c=f x)(h:c.length=st):bU e st id f [x] (.own id 0 st 1) (some (.row e st 1 fun i=>cut c (i*st) st)):=
 .inr ⟨_,by simp,rfl,rfl,fun j hj=>by
  have hj':j<1:=hj
  obtain rfl:j=0:=by omega
  show cut c (0*st) st=_
  rw [J7 h,hc];rfl⟩
theorem fQ{α:Type}{e st id m:Nat}{f:α->List SV}{L:List α}{g:Nat->List SV}{x:α}{c:List SV}(hc:c=f x)(hm:m=L.length)(hg: ∀j (h:j<L.length),g j=f L[j]):
  bU e st id f (L++[x]) (.own id 0 st (m+1)) (some (.row e st (m+1) (bK m c g))):=
 .inr ⟨bK m c g,by simp,by rw [hm];simp,by rw [hm];simp,fun j hj=>by
  unfold bK
  by_cases h:j=m
  ·subst h
   rw [ao rfl]
   simp only [ar,hm,List.getElem_concat_length]
   exact hc
  ·rw [aj h]
   simp only [au,az,bw] at hj
   have hj':j<L.length:=by omega
   rw [List.getElem_append_left hj']
   exact hg j hj'⟩
def lC{α:Type}(e st:Nat)(f:α->List SV)(L:List α)(K:KC):Prop:=
 (L=[]->K .nils [] [])/\ ∀g,L≠[]->(∀j (h:j<L.length),g j=f L[j])->K (.own 0 0 st L.length) [some (.row e st L.length g)] []
def aU{α:Type}(f:α->List SV)(d:α)(L:List α):Nat->List SV:=fun i=>f (L.getD i d)
theorem eN{α:Type}{f:α->List SV}{d:α}{L:List α}{i:Nat}(h:i<L.length):aU f d L i=f L[i]:=by
 unfold aU;rw [bc,be h];rfl
theorem vL{α:Type}{k:FuncId}{xs:List SV}{e st:Nat}{f:α->List SV}{d0:α}{L:List α}(hf: ∀x,(f x).length=st)(h:Sat P k xs [] (lC e st f L)):aE P k xs [] (.ro L.length st (aU f d0 L)) [] []:=by
 obtain ⟨v,σ',d,hv,hc⟩:=h (fun v σ' d=>(L=[]/\v= .nils/\σ'=[]/\d=[])\/ ∃g,(∀j (h:j<L.length),g j=f L[j])/\v= .own 0 0 st L.length/\σ'=[some (.row e st L.length g)]/\d=[])
  ⟨fun hL=> .inl ⟨hL,rfl,rfl,rfl⟩,fun g _ hg=> .inr ⟨g,hg,rfl,rfl,rfl⟩⟩
 rcases hv with ⟨rfl,rfl,rfl,rfl⟩|⟨g,hg,rfl,rfl,rfl⟩
 ·exact oB hc
 ·exact sR (fun i hi=>⟨by rw [hg i hi,eN hi],by rw [eN hi];exact hf _⟩) hc
end Go.Se
namespace Go.Se
variable {P:Program}
theorem TF {k:FuncId} {xs:List SV} {σ:List (Option SB)} {v:SV} {e:TypeId} {cs:List SV} {st n:Nat} {d:List Nat} (hf:ids.idsL cs=[]) (hl:cs.length=n*st)
  (h:aE P k xs σ v [some (.lst e cs)] d):aE P k xs σ v [some (.row e st n (fun i=>cut cs (i*st) st))] d:=by
 intro ρ T w vals h1 h2 h3 h4
 refine (h ρ T w vals h1 h2 h3 h4).mono fun x w' ⟨ρ',T',hd⟩=>⟨ρ',T',{
  names:=hd.names
  only:=hd.only
  len:=hd.len
  val:=hd.val
  store:=fun p sb hp=>by
   match p,hp with
   |0,hp=>
    cases hp
    obtain ⟨b,e1,e2,e3⟩:=hd.store 0 _ rfl
    exact ⟨b,e1,e2,qB hf hl e3⟩
   |p+1,hp=>simp at hp
  fresh:=fun p b hp hb=>by
   rcases hd.fresh p b hp hb with h|⟨q,h5,h6,h7⟩
   ·exact .inl h
   ·exfalso;cases q<;>simp at h6
  inj:=hd.inj
  dirty:=hd.dirty
  grow:=hd.grow
  tback:=hd.tback
  below:=hd.below
  tkeep:=fun b hb hT=>by
   rcases hd.tkeep b hb hT with h|⟨q,h5,h6,h7⟩
   ·exact .inl h
   ·exfalso;cases q<;>simp at h6}⟩
def aEt{α:Type}(e st:Nat)(f:α->List SV)(L:List α)(v:SV)(σ':List (Option SB)):Prop:=
 (L=[]/\v= .nils/\σ'=[])\/(∃g,v= .own 0 0 st L.length/\σ'=[some (.row e st L.length g)]/\ ∀j (h:j<L.length),g j=f L[j])\/(∃x,L=[x]/\v= .own 0 0 st 1/\σ'=[some (.lst e (f x))])
def u2{α:Type}(e st:Nat)(f:α->List SV)(L:List α)(K:KC):Prop:= ∀v σ',aEt e st f L v σ'->K v σ' []
theorem G0{α:Type}{e st:Nat}{f:α->List SV}{L:List α}{K:KC}(d:α)(h:u2 e st f L K): ∃v σ' dd,K v σ' dd:=by
 cases L with
 |nil=>exact ⟨_,_,_,h _ _ (.inl ⟨rfl,rfl,rfl⟩)⟩
 |cons a L=>exact ⟨_,_,_,h _ _ (.inr (.inl ⟨aU f d (a::L),rfl,rfl,fun j hj=>eN hj⟩))⟩
theorem LI{α:Type}{k:FuncId}{xs:List SV}{e st:Nat}{f:α->List SV}{d0:α}{L:List α}(hf: ∀x,(f x).length=st)(hi: ∀x,ids.idsL (f x)=[])(h:Sat P k xs [] (u2 e st f L)):aE P k xs [] (.ro L.length st (aU f d0 L)) [] []:=by
 obtain ⟨v,σ',d,⟨hv,rfl⟩,hc⟩:=h (fun v σ' d=>aEt e st f L v σ'/\d=[]) fun v σ' hv=>⟨hv,rfl⟩
 rcases hv with ⟨rfl,rfl,rfl⟩|⟨g,rfl,rfl,hg⟩|⟨x,rfl,rfl,rfl⟩
 ·exact oB hc
 ·exact sR (fun i hi=>⟨by rw [hg i hi,eN hi],by rw [eN hi];exact hf _⟩) hc
 ·have:=TF (n:=1) (hi x) (by rw [hf,cj]) hc
  refine sR (fun i hi=> ?_) this
  obtain rfl:i=0:=Nat.lt_one_iff.1 hi
  refine ⟨?_,by rw [eN (by simp)];exact hf _⟩
  rw [eN (by simp)]
  exact J7 (hf x)
end Go.Se
namespace Go.Se
def kQ(x:List Int):List SV:=[.str (bytesOf x)]
abbrev aG(p:List (List Int)):Nat->List SV:=aU kQ [] p
def OJ(x:Int×List (List Int)):List SV:=[.int .i64 x.1,.ro x.2.length 1 (aG x.2)]
abbrev qG(q:List (Int×List (List Int))):Nat->List SV:=aU OJ (0,[]) q
structure Bk where
 q:List (Int×List (List Int))
 last:Int
 err:Int
 place:Int
def bkC(all:Int)(b:Bk):List SV:=[.ro b.q.length 2 (qG b.q),.int .i64 all,.int .i64 b.last,.int .i64 b.err,.int .i64 b.place]
def nbF :Int->List (List Int)->List (Int×List (List Int))
 |_,[]=>[]
 |k,t::r=>bif (cH t).isEmpty then nbF (k+1) r else (k+1,cH t)::nbF (k+1) r
def wfQ(q:List (Int×List (List Int))):Prop:= ∀x,x∈q->x.2≠[]
theorem SL : ∀(l:List (List Int)) (k:Int),wfQ (nbF k l)
 | [],_=>fun x hx=>by cases hx
 |t::r,k=>fun x hx=>by
  unfold nbF at hx
  cases h:(cH t).isEmpty with
  |true=>rw [h] at hx;exact SL r (k+1) x hx
  |false=>
   rw [h] at hx
   rcases cb.1 hx with rfl|hx
   ·intro e;simp only at e;rw [e] at h;cases h
   ·exact SL r (k+1) x hx
def lX(l:List Int):Bk:=⟨nbF 0 (fR l),0,0,0⟩
def uO(l:List Int):Int:=(fR l).length
def nB(b:Bk)(e at':Int):Bk:=bif b.err==0&&e !=0 then {b with err:=e,place:=at'} else b
def eC(q:List (Int×List (List Int))):Int×List (List Int):=q.getD 0 (0,[])
def pA(b:Bk)(w:ByteArray)(lo hi:Int):Int:=
 bif b.q.isEmpty then 20 else bif !(bytesOf ((eC b.q).2.getD 0 [])==w) then 21 else bif decide ((((eC b.q).2.length:Int) - 1)<lo)||decide ((((eC b.q).2.length:Int) - 1)>hi) then 22 else 0
def iT(b:Bk)(w:ByteArray)(lo hi:Int):Bool:=b.err !=0||pA b w lo hi !=0
def i7(all:Int)(b:Bk)(w:ByteArray)(lo hi:Int):Bk:=
 bif b.err !=0 then b else bif pA b w lo hi==0 then {b with q:=b.q.tail,last:=(eC b.q).1} else {b with err:=pA b w lo hi,place:=bif b.q.isEmpty then all+1 else (eC b.q).1}
def kE(b:Bk):List (List Int):=(eC b.q).2.tail
def iE(b:Bk)(w:ByteArray):Bool:=b.err==0&&(!b.q.isEmpty&&(bytesOf ((eC b.q).2.getD 0 [])==w))
def yY(b:Bk)(l:List Int):Int:=bif b.err==0 then u9 l else 0
def nA(b:Bk)(l:List Int):Bk:=nB b (wB l) b.last
def A0(l:List Int)(lo hi:Int):Int:=bif kL l==0 then (bif decide (g9 l<lo)||decide (g9 l>hi) then 40 else 0) else 24
def mX(b:Bk)(l:List Int)(lo hi:Int):Int:=bif b.err==0&&A0 l lo hi==0 then g9 l else 0
def kR(b:Bk)(l:List Int)(lo hi:Int):Bk:=nB b (A0 l lo hi) b.last
def u5(s:ByteArray):List ByteArray->Nat
 | []=>0
 |a::l=>bif a==s then 0 else u5 s l+1
def aLm(s:ByteArray)(l:List ByteArray):Int:=bif decide (u5 s l<l.length) then 0 else 24
def rE(b:Bk)(s:ByteArray)(l:List ByteArray):Int:=bif b.err==0&&decide (u5 s l<l.length) then (u5 s l:Int) else 0
def mV(b:Bk)(s:ByteArray)(l:List ByteArray):Bk:=nB b (aLm s l) b.last
def yO(b:Bk):Bk:=nB b 22 b.last
def LS(b:Bk):Int:=bif b.err !=0 then b.err else bif b.q.isEmpty then 0 else 23
def OH(b:Bk):Int:=bif b.err !=0 then b.place else bif b.q.isEmpty then b.place else (eC b.q).1
def aFq(b:Bk):Bk:=bif b.q.isEmpty then b else nB b 23 (eC b.q).1
def w9(X:Nat->ByteArray):Nat->List SV:=fun i=>[.str (X i)]
def HP(i:Nat)(v:ByteArray)(X:Nat->ByteArray):Nat->ByteArray:=fun j=>bif decide (j=i) then v else X j
theorem wC(i:Nat)(v:ByteArray)(X:Nat->ByteArray):bK i [.str v] (w9 X)=w9 (HP i v X):=by
 funext j;unfold bK w9 HP;cases decide (j=i)<;>rfl
theorem RH(p:List (List Int)):(fun i=>aG p (i+1))=aG p.tail:=by
 funext i;cases p<;>rfl
theorem aHN(q:List (Int×List (List Int))):(fun i=>qG q (i+1))=qG q.tail:=by
 funext i;cases q<;>rfl
def RB(L:List (List Int))(pos:Nat)(b:Bk):Prop:=pos<=L.length/\b.q=nbF pos (L.drop pos)
theorem JP{L:List (List Int)}{pos:Nat}(h:pos<L.length)(hp:cH (L.getD pos [])=[]):nbF pos (L.drop pos)=nbF (pos+1:Nat) (L.drop (pos+1)):=by
 rw [dz h]
 rw [bc,be h] at hp
 conv=>lhs;unfold nbF
 rw [show cH L[pos]=[] from hp]
 push_cast;rfl
theorem N6{L:List (List Int)}{pos:Nat}(h:pos<L.length)(hp:cH (L.getD pos [])≠[]):nbF pos (L.drop pos)=((pos:Int)+1,cH (L.getD pos []))::nbF (pos+1:Nat) (L.drop (pos+1)):=by
 rw [dz h]
 rw [bc,be h] at hp|-
 conv=>lhs;unfold nbF
 rw [show (cH L[pos]).isEmpty=false by cases hh:cH L[pos] with|nil=>exact absurd hh hp|cons=>rfl]
 push_cast;rfl
theorem W3{L:List (List Int)}:nbF L.length (L.drop L.length)=[]:=by rw [List.drop_length];rfl
theorem SS{l:List Int}(h:bH l){c:Int}(hc:0<=c)(hc':c<=255):qZ (bytesOf l) c=l.countP (· ==c):=by
 unfold qZ bytesOf
 simp only [List.countP_map]
 refine List.countP_congr fun x hx=> ?_
 have:=h x hx
 simp only [Function.comp,ci]
 rw [<- UInt8.toNat_inj]
 simp only [UInt8.toNat_ofNat',Nat.toUInt8_eq]
 omega
theorem aHR{l:List Int}(h:bH l){c:Int}(hc:0<=c)(hc':c<=255):iC (bytesOf l) c=bif iN c l then ((eM c l).length:Int) else -1:=by
 rw [yG h hc hc',qR]
 cases iN c l<;>simp
theorem M3{c:Int}(l:List Int):(bytesOf l).extract 0 (eM c l).length=bytesOf (eM c l):=by
 rw [eE,gq,dk,sB]
theorem Q4{c:Int}{l:List Int}(h:iN c l=true):(bytesOf l).extract ((eM c l).length+1) l.length=bytesOf (kF c l):=by
 obtain ⟨h1,h2⟩:=yN c l h
 rw [eE,h1,gc]
 rw [<- h1,dc];exact av _
theorem aE5{c:Int}{l:List Int}(h:iN c l=true):(eM c l).length+1+(kF c l).length=l.length:=by
 have:=congrArg List.length (JE c l h)
 simp only [au,az] at this
 omega
theorem nU{α:Type}{q:List α}{i:Nat}{x:α}{r:List α}(h:q.drop i=x::r):i<q.length/\(∀d,q.getD i d=x)/\q.drop (i+1)=r:=by
 have hi:i<q.length:=by
  refine Nat.not_le.1 fun hh=> ?_
  rw [List.drop_of_length_le hh] at h;cases h
 rw [dz hi] at h
 cases h
 exact ⟨hi,fun d=>by rw [bc,be hi];rfl,rfl⟩
theorem MF{α:Type}{e st:Nat}{f:α->List SV}{L:List α}{K:KC}(d:α)(h:lC e st f L K): ∃v σ' dd,K v σ' dd:=by
 by_cases hL:L=[]
 ·exact ⟨_,_,_,h.1 hL⟩
 ·exact ⟨_,_,_,h.2 (aU f d L) hL fun j hj=>eN hj⟩
theorem CY : ∀l:List Int,qY l=bif l.drop (l.length - 1)==[10] then l.take (l.length - 1) else l
 | []=>rfl
 | [a]=>by
  show (bif a==10 then [] else [a])=bif ([a]:List Int)==[10] then [] else [a]
  rw [show (([a]:List Int)==[10])=(a==10) by simp [Bool.and_true]]
 |a::b::l=>by
  have ih:=CY (b::l)
  show a::qY (b::l)=_
  rw [ih]
  show _=bif (b::l).drop ((b::l).length - 1)==[10] then a::(b::l).take ((b::l).length - 1) else a::b::l
  cases (b::l).drop ((b::l).length - 1)==[10]<;>rfl
theorem aB5{s:ByteArray}{K:KC}(hs:s.size<9223372036854775808)(hK:K (.str (bytesOf (qY (aD s)))) [] []):
  (Br (decide ((↑s.size:Int)>=1)) (Br (decide (0<=IntKind.i64.wrap ((↑s.size:Int) - 1))&&(decide (IntKind.i64.wrap ((↑s.size:Int) - 1)<=(↑s.size:Int))&&decide ((↑s.size:Int)<=(↑s.size:Int)))) (Br (s.extract (IntKind.i64.wrap ((↑s.size:Int) - (↑(⟨#[10]⟩:ByteArray).size:Int))).toNat (↑s.size:Int).toNat==(⟨#[10]⟩:ByteArray)) (Br (true&&(decide (0<=IntKind.i64.wrap ((↑s.size:Int) - 1))&&decide (IntKind.i64.wrap ((↑s.size:Int) - 1)<=(↑s.size:Int)))) (K (SV.str (s.extract 0 (IntKind.i64.wrap ((↑s.size:Int) - 1)).toNat)) [] []) (False)) (K (SV.str s) [] [])) (False)) (K (SV.str s) [] [])):=by
 have hb:=dJ s
 have hl:=cF s
 rw [CY] at hK
 generalize hm:aD s=l at hK hb hl
 have hsl:s=bytesOf l:=by rw [<- hm,fC]
 have hz:((⟨#[10]⟩:ByteArray).size:Int)=1:=rfl
 rw [hz]
 refine Br.of (fun c=> ?_) fun c=> ?_
 ·have c:=aa c
  have hw:IntKind.i64.wrap ((s.size:Int) - 1)=((s.size - 1:Nat):Int):=by rw [fK];omega
  simp only [hw,am]
  refine Br.of (fun _=> ?_) fun e=>absurd e (by simp)
  have e1:(s.extract (s.size - 1) s.size==(⟨#[10]⟩:ByteArray))=(l.drop (l.length - 1)==[10]):=by
   rw [hl,hsl,aM,eE,show (⟨#[10]⟩:ByteArray)=bytesOf [10] from rfl,
    I8 (fun x hx=>hb x (List.mem_of_mem_drop (List.mem_of_mem_take hx))) (fun x hx=>by simp at hx;omega),gc (by rw [dc];exact av _)]
   rw [fv];simp
  rw [e1]
  refine Br.of (fun d=>Br.of (fun _=> ?_) fun e=>absurd e (by simp)) fun d=> ?_
  ·rw [d] at hK
   rw [hsl,aM,eE,gq,dk]
   exact hK
  ·rw [d] at hK;rw [hsl];exact hK
 ·have c:=ae c
  have:l=[]:=fg (by omega)
  subst this
  rw [hsl];exact hK
theorem I7{m:Nat}(h:m<=1099511627){P:Prop}(c:(decide ((m+1)*16<=1099511627776)&&decide (m+1<9223372036854775808)&&decide (m=m))=false):P:=by
 rw [bf,bf] at c
 rcases c with (c|c)|c
 ·have:=ae c;omega
 ·have:=ae c;omega
 ·exact absurd rfl (ae c)
theorem J9 : ∀(l w:List Int),(lnR w l).length<=l.length+1
 | [],w=>by unfold lnR;cases w.isEmpty<;>simp
 |a::l,w=>by
  unfold lnR
  cases a==10
  ·simp only [ap,az];have:=J9 l (w++[a]);omega
  ·simp only [ar,az];have:=J9 l [];omega
theorem IR{l:List Int}{i:Nat}(h:i<l.length):l.drop i=l.getD i 0::l.drop (i+1):=by
 rw [dz h,bc,be h];rfl
theorem Z4{l:List Int}{K:KC}(hb:bH l)(hl:l.length<9223372036854775808)(hK:K (.tup [.str (bytesOf (eM 35 l)),.str (bytesOf (kF 35 l)),.bool (iN 35 l)]) [] []):
  Br ((⟨#[35]⟩:ByteArray)==bytesOf l) (If (true&&(decide ((1:Int)<=((bytesOf l).size:Int))&&decide (((bytesOf l).size:Int)<=((bytesOf l).size:Int)))) (K (.tup [.str ((bytesOf l).extract 0 0),.str ((bytesOf l).extract 1 ((bytesOf l).size:Int).toNat),.bool true]) [] []))
   (Br (decide (iC (bytesOf l) 35>=0)) (If (true&&(decide ((0:Int)<=iC (bytesOf l) 35)&&decide (iC (bytesOf l) 35<=((bytesOf l).size:Int))))
    (If (decide (0<=IntKind.i64.wrap (iC (bytesOf l) 35+1))&&(decide (IntKind.i64.wrap (iC (bytesOf l) 35+1)<=((bytesOf l).size:Int))&&decide (((bytesOf l).size:Int)<=((bytesOf l).size:Int))))
     (K (.tup [.str ((bytesOf l).extract 0 (iC (bytesOf l) 35).toNat),.str ((bytesOf l).extract (IntKind.i64.wrap (iC (bytesOf l) 35+1)).toNat ((bytesOf l).size:Int).toNat),.bool true]) [] [])))
    (K (.tup [.str (bytesOf l),.str ⟨#[]⟩,.bool false]) [] [])):=by
 rw [yG hb (by decide) (by decide),qR,aM]
 refine Br.of (fun c=> ?_) fun _=> ?_
 ·have hl1:l=[35]:=by
   rw [lO,ci] at c
   have c:bytesOf [35]=bytesOf l:=ep c
   have:=congrArg aD c
   rw [cX hb,cX (fun x hx=>by rcases aq.1 hx with rfl;omega)] at this
   exact this.symm
  subst hl1
  exact If.mk rfl hK
 ·cases hh:iN 35 l with
  |false=>
   rw [hh,rY _ _ hh,AV _ _ hh] at hK
   refine Br.of (fun c=> ?_) fun _=>hK
   have:=aa c
   simp at this
  |true=>
   obtain ⟨h1,h2⟩:=yN 35 l hh
   have h3:=sB 35 l
   rw [hh] at hK
   simp only [ar,bi]
   have hw:IntKind.i64.wrap ((((eM 35 l).length:Nat):Int)+1)=(((eM 35 l).length+1:Nat):Int):=by rw [fK];omega
   rw [hw,eE,eE]
   simp only [am,gq,dk]
   rw [h3,h1,show (kF 35 l).take (l.length - ((eM 35 l).length+1))=kF 35 l by rw [<- h1,<- dc,gz]]
   refine Br.of (fun _=>If.mk ?_ (If.mk ?_ hK)) fun c=> ?_
   ·simp only [ch,af,ak];omega
   ·simp only [af,ak];omega
   ·have:=ae c
    omega
def spC(x:Int×Int):List SV:=[.int .i64 x.1,.int .i64 x.2]
abbrev spG(S:List (Int×Int)):Nat->List SV:=aU spC (0,0) S
theorem DC{α:Type}{f:α->List SV}{d x:α}{L:List α}:bK L.length (f x) (aU f d L)=aU f d (L++[x]):=by
 funext i
 unfold bK aU
 by_cases h:i=L.length
 ·rw [ao h,h];simp
 ·rw [aj h]
  by_cases h2:i<L.length
  ·simp [fh h2]
  ·simp [fr (gh.1 h2),dy (gh.1 h2),dy (show [x].length<=i - L.length by simp;omega)]
theorem wX(w:List Int)(a:Int)(l:List Int):mC w (a::l)=bif xT a then (bif w.isEmpty then mC [] l else w::mC [] l) else mC (w++[a]) l:=rfl
theorem DT(w:List Int):mC w []=bif w.isEmpty then [] else [w]:=rfl
theorem yL{α:Type}{L:List α}{i:Nat}{d:α}(h:i<L.length):L.getD i d∈L:=by
 rw [bc,be h];exact List.getElem_mem h
theorem BM(s:ByteArray)(i:Nat):(aD s).getD i 0=((s.data.getD i 0).toNat:Int):=by
 have:=CC (dJ s) i
 rw [fC] at this
 exact this.symm
theorem aFH{st:Int}(h0:0<=st)(h1:st<9223372036854775808):IntKind.i64.wrap (((BitVec.ofInt IntKind.i64.bits (if IntKind.i64.signed=true then -1 else IntKind.i64.max)^^^BitVec.ofInt IntKind.i64.bits st).toNat:Nat):Int)= -1 - st:=by
 have e:(if IntKind.i64.signed=true then (-1:Int) else IntKind.i64.max)= -1:=rfl
 rw [e]
 have h2:(BitVec.ofInt 64 (-1):BitVec 64)=BitVec.allOnes 64:=by decide
 show IntKind.i64.wrap (((BitVec.ofInt 64 (-1)^^^BitVec.ofInt 64 st).toNat:Nat):Int)=_
 rw [h2,BitVec.allOnes_xor,BitVec.toNat_not,BitVec.toNat_ofInt,fK]
 omega
def HB(l:List Int)(x:Int×Int):List Int:=(l.drop x.1.toNat).take (x.2.toNat - x.1.toNat)
def wAt(l:List Int)(st:Int)(pos:Nat):List Int:=bif decide (st<0) then [] else (l.drop st.toNat).take (pos - st.toNat)
structure ffI (l:List Int) (S:List (Int×Int)) (st:Int) (pos:Nat):Prop where
 le:pos<=l.length
 len:S.length<=pos
 st1:0<=st->st<pos
 ok: ∀x,x∈S->0<=x.1/\x.1<=x.2/\x.2<=(l.length:Int)
 eq:S.map (HB l)++mC (wAt l st pos) (l.drop pos)=mC [] l
theorem aFm{l:List Int}{S:List (Int×Int)}{a b:Int}(h: ∀x,x∈S->0<=x.1/\x.1<=x.2/\x.2<=(l.length:Int))(h1:0<=a)(h2:a<=b)(h3:b<=(l.length:Int)):
  ∀x,x∈S++[(a,b)]->0<=x.1/\x.1<=x.2/\x.2<=(l.length:Int):=fun x hx=>by
 rcases ct.1 hx with hx|hx
 ·exact h x hx
 ·obtain rfl:=aq.1 hx;exact ⟨h1,h2,h3⟩
theorem WM{l:List Int}{st:Int}{pos:Nat}(h:0<=st):wAt l st pos=HB l (st,pos):=by
 unfold wAt HB;rw [aj (by omega)];simp
theorem aFs{l:List Int}{st:Int}{pos:Nat}(h:0<=st)(h1:st<pos)(h2:pos<=l.length):(wAt l st pos).isEmpty=false:=by
 unfold wAt;rw [aj (by omega)]
 rw [cf];intro e
 have:=congrArg List.length (gl.1 e)
 simp only [ap,du,dc,bw] at this
 omega
theorem aGx{l:List Int}{S:List (Int×Int)}{st:Int}{pos:Nat}(h:ffI l S st pos)(hp:pos<l.length)(hs:xT (l.getD pos 0)=true)(h0:0<=st):ffI l (S++[(st,(pos:Int))]) (-1 - st) (pos+1):=by
 have h1:=h.st1 h0
 refine ⟨hp,by have:=h.len;simp;omega,fun hh=>by omega,aFm h.ok h0 (by omega) (by omega), ?_⟩
 have he:=h.eq
 rw [IR hp] at he
 rw [wX,hs,aFs h0 h1 h.le,WM h0] at he
 rw [gf,bo,show wAt l (-1 - st) (pos+1)=[] by unfold wAt;rw [ao (by omega)];rfl]
 exact he
theorem aGC{l:List Int}{S:List (Int×Int)}{st:Int}{pos:Nat}(h:ffI l S st pos)(hp:pos<l.length)(hs:xT (l.getD pos 0)=true)(h0:st<0):ffI l S st (pos+1):=by
 refine ⟨hp,by have:=h.len;omega,fun hh=>by omega,h.ok, ?_⟩
 have he:=h.eq
 have hw: ∀p,wAt l st p=[]:=fun p=>by unfold wAt;rw [ao h0];rfl
 rw [IR hp,hw] at he
 rw [wX,hs] at he
 rw [hw];exact he
theorem aHB{l:List Int}{S:List (Int×Int)}{st:Int}{pos w:Nat}(h:ffI l S st pos)(hw:1<=w)(hp:pos+w<=l.length)(hs: ∀j,j<w->xT (l.getD (pos+j) 0)=false):
  ffI l S (bif decide (st<0) then (pos:Int) else st) (pos+w):=by
 have hm: ∀x,x∈(l.drop pos).take w->xT x=false:=fun x hx=>by
  obtain ⟨j,hj,rfl⟩:=List.getElem_of_mem hx
  rw [du,dc] at hj
  have:=hs j (by omega)
  rw [bc,be (show pos+j<l.length by omega)] at this
  rw [List.getElem_take,List.getElem_drop]
  exact this
 have he:=h.eq
 have hd:l.drop pos=(l.drop pos).take w++l.drop (pos+w):=by rw [<- List.drop_drop,List.take_append_drop]
 rw [hd,wW _ _ _ hm] at he
 refine ⟨hp,by have:=h.len;omega,fun hh=> ?_,h.ok, ?_⟩
 ·cases hd:decide (st<0) with
  |true=>simp only [ar];omega
  |false=>have:=ae hd;have:=h.st1 (by omega);simp only [ap];omega
 ·rw [<- he]
  congr 2
  unfold wAt
  cases hd:decide (st<0) with
  |true=>simp only [ar];rw [aj (by omega)];simp [fo]
  |false=>
   have h0:=ae hd
   have h1:=h.st1 (by omega)
   simp only [ap]
   rw [hd]
   simp only [ap]
   obtain ⟨k,rfl⟩: ∃k:Nat,st=(k:Int):=⟨st.toNat,by omega⟩
   rw [am,show pos+w - k=(pos - k)+w by omega,List.take_add,List.drop_drop,show k+(pos - k)=pos by omega]
theorem aGo{l:List Int}{S:List (Int×Int)}{st:Int}{pos:Nat}(h:ffI l S st pos)(hp:l.length<=pos)(h0:0<=st):
  (S++[(st,(l.length:Int))]).map (HB l)=mC [] l/\ ∀x,x∈S++[(st,(l.length:Int))]->0<=x.1/\x.1<=x.2/\x.2<=(l.length:Int):=by
 have hpos:pos=l.length:=by have:=h.le;omega
 subst hpos
 have h1:=h.st1 h0
 have he:=h.eq
 rw [List.drop_length] at he
 rw [DT,aFs h0 h1 (av _),WM h0] at he
 exact ⟨by rw [gf];exact he,aFm h.ok h0 (by omega) (by omega)⟩
theorem aHo{l:List Int}{S:List (Int×Int)}{st:Int}{pos:Nat}(h:ffI l S st pos)(hp:l.length<=pos)(h0:st<0):S.map (HB l)=mC [] l:=by
 have hpos:pos=l.length:=by have:=h.le;omega
 subst hpos
 have he:=h.eq
 rw [List.drop_length,show wAt l st l.length=[] by unfold wAt;rw [ao h0];rfl] at he
 have he:S.map (HB l)++[]=mC [] l:=he
 rw [cm] at he
 exact he
theorem aCn{s:ByteArray}{p:Nat}(h:p<s.size)(hs:(((Utf8.decode s p).1:Nat):Int)=32\/(((Utf8.decode s p).1:Nat):Int)=9):xT ((aD s).getD p 0)=true/\(Utf8.decode s p).2=1:=by
 obtain ⟨d1,d2,d3,d4,d5⟩:=K6 s p h
 rw [BM]
 by_cases ha:(s.data.getD p 0).toNat<128
 ·rw [d3 ha] at hs|-
  refine ⟨?_,rfl⟩
  unfold xT
  rcases hs with hs|hs<;>(simp only at hs;rw [hs];rfl)
 ·have:=d4 (by omega);omega
theorem aAJ{s:ByteArray}{p:Nat}(h:p<s.size)(h1:(((Utf8.decode s p).1:Nat):Int)≠32)(h2:(((Utf8.decode s p).1:Nat):Int)≠9): ∀j,j<(Utf8.decode s p).2->xT ((aD s).getD (p+j) 0)=false:=by
 obtain ⟨d1,d2,d3,d4,d5⟩:=K6 s p h
 intro j hj
 rw [BM]
 unfold xT
 rw [dh,ck,ck]
 by_cases h0:j=0
 ·subst h0
  rw [Nat.add_zero]
  by_cases ha:(s.data.getD p 0).toNat<128
  ·rw [d3 ha] at h1 h2;exact ⟨h1,h2⟩
  ·omega
 ·have:=d5 j (by omega) hj;omega
theorem aIZ{b:Bk}{w:ByteArray}{lo hi all:Int}(h:(b.err==0)=false):iT b w lo hi=true/\i7 all b w lo hi=b:=by
 unfold iT i7
 rw [show (b.err !=0)=true by rw [bne,h];rfl]
 exact ⟨rfl,rfl⟩
theorem aI5{b:Bk}{w:ByteArray}{lo hi all e:Int}(h:(b.err==0)=true)(hT:pA b w lo hi=e)(he:e≠0):
  iT b w lo hi=true/\i7 all b w lo hi=⟨b.q,b.last,e,bif b.q.isEmpty then all+1 else (eC b.q).1⟩:=by
 unfold iT i7
 rw [show (b.err !=0)=false by rw [bne,h];rfl,hT,show (e==0)=false by rw [ck];exact he]
 exact ⟨by simp [he],rfl⟩
theorem aLL{b:Bk}{w:ByteArray}{lo hi all:Int}(h:(b.err==0)=true)(hT:pA b w lo hi=0):
  iT b w lo hi=false/\i7 all b w lo hi=⟨b.q.tail,(eC b.q).1,b.err,b.place⟩:=by
 unfold iT i7
 rw [show (b.err !=0)=false by rw [bne,h];rfl,hT]
 exact ⟨rfl,rfl⟩
theorem zU{b:Bk}{e a:Int}(h:(b.err==0)=false):nB b e a=b:=by unfold nB;rw [h];rfl
theorem LK{b:Bk}{a:Int}:nB b 0 a=b:=by unfold nB;rw [show ((0:Int) !=0)=false from rfl,em];rfl
theorem pW{b:Bk}{e a:Int}(h:(b.err==0)=true)(he:e≠0):nB b e a=⟨b.q,b.last,e,a⟩:=by
 unfold nB;rw [h,show (e !=0)=true by simp [he]];rfl
structure aR (b:Bk):Prop where
 wf:wfQ b.q
 len: ∀x,x∈b.q->x.2.length<=1048577
 all:b.q.length<=1048577
theorem aR.tail{b:Bk}{l e p:Int}(h:aR b):aR ⟨b.q.tail,l,e,p⟩:=
 ⟨fun x hx=>h.wf x (List.mem_of_mem_tail hx),fun x hx=>h.len x (List.mem_of_mem_tail hx),by have:=h.all;simp only [List.length_tail];omega⟩
theorem aR.same{b:Bk}{l e p:Int}(h:aR b):aR ⟨b.q,l,e,p⟩:=⟨h.wf,h.len,h.all⟩
theorem aR.fail{b:Bk}{e a:Int}(h:aR b):aR (nB b e a):=by
 unfold nB
 cases b.err==0&&e !=0
 ·exact h
 ·exact h.same
theorem aR.take{b:Bk}{w:ByteArray}{lo hi all:Int}(h:aR b):aR (i7 all b w lo hi):=by
 unfold i7
 cases b.err !=0
 ·cases pA b w lo hi==0
  ·exact h.same
  ·exact h.tail
 ·exact h
theorem aR.head{b:Bk}(h:aR b)(hq:b.q≠[]):0<(eC b.q).2.length/\(eC b.q).2.length<=1048577:=by
 obtain ⟨q,_,_,_⟩:=b
 cases q with
 |nil=>exact absurd rfl hq
 |cons x r=>
  have h1:=h.wf x (bq ..)
  exact ⟨List.length_pos_iff.2 h1,h.len x (bq ..)⟩
theorem NC{α:Type}(q:List α):((q.length:Int)==0)=q.isEmpty:=by
 cases q
 ·rfl
 ·rw [List.isEmpty_cons,ck];simp;omega
structure aBh (L:List (List Int)):Prop where
 len:L.length<=1048577
 ok: ∀x,x∈L->bH x/\x.length<=1048576
theorem E7 : ∀(l w:List Int),(mC w l).length<=l.length+1
 | [],w=>by rw [DT];cases w.isEmpty<;>simp
 |a::l,w=>by
  rw [wX]
  have h1:=E7 l []
  have h2:=E7 l (w++[a])
  cases xT a
  ·simp only [ap,az];omega
  ·cases w.isEmpty
   ·simp only [ar,ap,az];omega
   ·simp only [ar,az];omega
theorem T4(l:List Int):(cH l).length<=l.length+1:=by
 have h1:=E7 (eM 35 l) []
 have h2:(eM 35 l).length<=l.length:=by rw [<- sB,du];exact Nat.min_le_right _ _
 unfold cH
 omega
theorem aBh.at{L:List (List Int)}(h:aBh L)(i:Nat):bH (L.getD i [])/\(L.getD i []).length<=1048576:=by
 by_cases hi:i<L.length
 ·exact h.ok _ (yL hi)
 ·rw [bc,dy (gh.1 hi)]
  exact ⟨fun x hx=>(nomatch hx),cn _⟩
def BL(L:List (List Int))(pos:Nat):Bool:=decide (pos<L.length)&&(cH (L.getD pos [])).isEmpty
def skF(L:List (List Int)):Nat->Nat->Nat
 |0,pos=>pos
 |f+1,pos=>bif BL L pos then skF L f (pos+1) else pos
def skP(L:List (List Int))(pos:Nat):Nat:=skF L (L.length+1 - pos) pos
theorem RB.step{L:List (List Int)}{pos:Nat}{b:Bk}(h:RB L pos b)(hb:BL L pos=true):RB L (pos+1) b:=by
 unfold BL at hb
 simp only [af,ak] at hb
 exact ⟨hb.1,h.2.trans (JP hb.1 (gl.1 hb.2))⟩
theorem RB.skF{L:List (List Int)}{b:Bk}: ∀(f pos:Nat),RB L pos b->RB L (skF L f pos) b
 |0,_,h=>h
 |f+1,pos,h=>by
  unfold Go.Se.skF
  cases hb:BL L pos with
  |true=>exact RB.skF f (pos+1) (h.step hb)
  |false=>exact h
theorem RB.skip{L:List (List Int)}{pos:Nat}{b:Bk}(h:RB L pos b):RB L (skP L pos) b:=RB.skF _ _ h
theorem RB.at{L:List (List Int)}{pos:Nat}{b:Bk}(h:RB L pos b)(hb:BL L pos=false):
  (pos=L.length/\b.q=[])\/(pos<L.length/\b.q=((pos:Int)+1,cH (L.getD pos []))::nbF (pos+1:Nat) (L.drop (pos+1))/\cH (L.getD pos [])≠[]):=by
 obtain ⟨h1,h2⟩:=h
 by_cases hp:pos<L.length
 ·right
  have hne:cH (L.getD pos [])≠[]:=fun e=>by
   unfold BL at hb;rw [ao hp,e] at hb;cases hb
  exact ⟨hp,h2.trans (N6 hp hne),hne⟩
 ·left
  have:pos=L.length:=by omega
  subst this
  exact ⟨rfl,h2.trans W3⟩
theorem RB.same{L:List (List Int)}{pos:Nat}{b:Bk}{l e p:Int}(h:RB L pos b):RB L pos ⟨b.q,l,e,p⟩:=h
theorem RB.fail{L:List (List Int)}{pos:Nat}{b:Bk}{e a:Int}(h:RB L pos b):RB L pos (nB b e a):=by
 unfold nB
 cases b.err==0&&e !=0
 ·exact h
 ·exact h.same
theorem MH : ∀(l w:List Int),bH l->bH w-> ∀x,x∈lnR w l->bH x/\x.length<=w.length+l.length
 | [],w,_,hw,x,hx=>by
  unfold lnR at hx
  cases h:w.isEmpty with
  |true=>rw [h] at hx;cases hx
  |false=>
   rw [h] at hx
   obtain rfl:=aq.1 hx
   exact ⟨hw,by simp⟩
 |a::l,w,hl,hw,x,hx=>by
  have hl':bH l:=fun y hy=>hl y (bm _ hy)
  unfold lnR at hx
  cases h:a==10 with
  |true=>
   rw [h] at hx
   rcases cb.1 hx with rfl|hx
   ·exact ⟨hw,by simp⟩
   ·have:=MH l [] hl' (fun y hy=>nomatch hy) x hx
    exact ⟨this.1,by simp only [bw,az] at*;omega⟩
  |false=>
   rw [h] at hx
   have:=MH l (w++[a]) hl' (fun y hy=>by
    rcases ct.1 hy with hy|hy
    ·exact hw y hy
    ·obtain rfl:=aq.1 hy;exact hl y (bq ..)) x hx
   exact ⟨this.1,by simp only [au,az,bw] at*;omega⟩
theorem aAj{l:List Int}(hb:bH l)(h:l.length<=1048576): ∀x,x∈fR l->bH x/\x.length<=1048576:=fun x hx=>by
 have:=MH l [] hb (fun y hy=>nomatch hy) x hx
 exact ⟨this.1,by have:=this.2;simp only [bw] at this;omega⟩
theorem WQ(a b:ByteArray):(a==b)=(b==a):=by
 rw [lO,lO,fv,ci,ci];exact ⟨Eq.symm,Eq.symm⟩
theorem LC{b:Bk}{s:ByteArray}{ws:List ByteArray}(h:(b.err==0)=false):rE b s ws=0/\mV b s ws=b:=by
 unfold rE mV;rw [h,zU h];exact ⟨rfl,rfl⟩
theorem mH{b:Bk}{s:ByteArray}{ws:List ByteArray}{j:Nat}(h:(b.err==0)=true)(hj:u5 s ws=j)(hl:j<ws.length):rE b s ws=j/\mV b s ws=b:=by
 unfold rE mV aLm
 rw [hj,ao hl,h]
 exact ⟨rfl,LK⟩
theorem FC{b:Bk}{s:ByteArray}{ws:List ByteArray}(h:(b.err==0)=true)(hj:u5 s ws=ws.length):rE b s ws=0/\mV b s ws=⟨b.q,b.last,24,b.last⟩:=by
 unfold rE mV aLm
 rw [hj,aj (gy _)]
 exact ⟨by rw [em];rfl,pW h (by decide)⟩
theorem tU{s a:ByteArray}{l:List ByteArray}(h:(s==a)=true):u5 s (a::l)=0:=by
 show (bif a==s then 0 else u5 s l+1)=0
 rw [WQ,h];rfl
theorem kA{s a:ByteArray}{l:List ByteArray}(h:(s==a)=false):u5 s (a::l)=u5 s l+1:=by
 show (bif a==s then 0 else u5 s l+1)=_
 rw [WQ,h];rfl
theorem WC : ∀(l:List (List Int)) (k:Int),(nbF k l).length<=l.length
 | [],_=>av _
 |t::r,k=>by
  unfold nbF
  have:=WC r (k+1)
  cases (cH t).isEmpty<;>simp only [ar,ap,az]<;>omega
theorem KD : ∀(l:List (List Int)) (k:Int),∀x,x∈nbF k l-> ∃t,t∈l/\x.2=cH t
 | [],_,x,hx=>nomatch hx
 |t::r,k,x,hx=>by
  unfold nbF at hx
  cases h:(cH t).isEmpty with
  |true=>
   rw [h] at hx
   obtain ⟨u,h1,h2⟩:=KD r (k+1) x hx
   exact ⟨u,bm _ h1,h2⟩
  |false=>
   rw [h] at hx
   rcases cb.1 hx with rfl|hx
   ·exact ⟨t,bq ..,rfl⟩
   ·obtain ⟨u,h1,h2⟩:=KD r (k+1) x hx
    exact ⟨u,bm _ h1,h2⟩
theorem Y6{l:List Int}(h:aBh (fR l)):aR (lX l):=by
 refine ⟨SL _ _,fun x hx=> ?_, ?_⟩
 ·obtain ⟨t,h1,h2⟩:=KD _ _ x hx
  rw [h2]
  have:=T4 t
  have:=(h.ok t h1).2
  omega
 ·have h1:=h.len
  have h2:=WC (fR l) 0
  show (nbF 0 (fR l)).length<=1048577
  omega
end Go.Se
namespace Go.Proofs.YtghnfjfkjhbgdaaGreatDoor
open Go.Se
set_option maxRecDepth 100000
theorem aF0(xs:List SV)(σ:List (Option SB)):Sat Tryz.prog 226 xs σ (one WH xs σ):=
 aB2 Tryz.func226 (by kernel_rfl) (by kernel_rfl) (by kernel_rfl) (by kernel_rfl) xs σ
noncomputable def y0 :bT Tryz.prog:=(b2).add 226 (one WH) aF0
theorem aL2(s:ByteArray)(K:KC):run y0 4 125 [.str s,.str ⟨#[10]⟩] [] K=
 (Br (decide ((↑s.size:Int)>=1)) (Br (decide (0<=IntKind.i64.wrap ((↑s.size:Int) - 1))&&(decide (IntKind.i64.wrap ((↑s.size:Int) - 1)<=(↑s.size:Int))&&decide ((↑s.size:Int)<=(↑s.size:Int)))) (Br (s.extract (IntKind.i64.wrap ((↑s.size:Int) - (↑(⟨#[10]⟩:ByteArray).size:Int))).toNat (↑s.size:Int).toNat==(⟨#[10]⟩:ByteArray)) (Br (true&&(decide (0<=IntKind.i64.wrap ((↑s.size:Int) - 1))&&decide (IntKind.i64.wrap ((↑s.size:Int) - 1)<=(↑s.size:Int)))) (K (SV.str (s.extract 0 (IntKind.i64.wrap ((↑s.size:Int) - 1)).toNat)) [] []) (False)) (K (SV.str s) [] [])) (False)) (K (SV.str s) [] [])):=by kernel_rfl
def gsR :List (Nat×eI):=[(0,⟨[0,1,2,3,9,10],[0],[0],1,[]⟩)]
def gsS(s:ByteArray)(n:Int)(N:Nat)(X:Nat->ByteArray)(i:Int):St:=⟨[(0,.str s),(1,.str ⟨#[10]⟩),(2,.int .i64 0),(3,.int .i64 n),(9,.own 0 0 1 N),(10,.int .i64 i)],[(0,some (.row 9 1 N (w9 X)))],1,[0],66⟩
noncomputable abbrev gsE :Env:=fG gsR (fun _=>0) y0 4
noncomputable abbrev gsF :Func:=Tryz.f165
theorem aEQ(s:ByteArray)(K:KC):cL gsR (fun _=>0) y0 5 165 [.str s,.str ⟨#[10]⟩,.int .i64 0,.int .i64 (-1)] [] K=
 (Br (decide (0<=if IntKind.i64.wrap ((↑s.size:Int)+1)<IntKind.i64.wrap ((↑(qZ s 10):Int)+1) then IntKind.i64.wrap ((↑s.size:Int)+1) else IntKind.i64.wrap ((↑(qZ s 10):Int)+1))&&(decide ((if IntKind.i64.wrap ((↑s.size:Int)+1)<IntKind.i64.wrap ((↑(qZ s 10):Int)+1) then IntKind.i64.wrap ((↑s.size:Int)+1) else IntKind.i64.wrap ((↑(qZ s 10):Int)+1))<=if IntKind.i64.wrap ((↑s.size:Int)+1)<IntKind.i64.wrap ((↑(qZ s 10):Int)+1) then IntKind.i64.wrap ((↑s.size:Int)+1) else IntKind.i64.wrap ((↑(qZ s 10):Int)+1))&&(decide ((if IntKind.i64.wrap ((↑s.size:Int)+1)<IntKind.i64.wrap ((↑(qZ s 10):Int)+1) then IntKind.i64.wrap ((↑s.size:Int)+1) else IntKind.i64.wrap ((↑(qZ s 10):Int)+1))*16<=1099511627776)&&decide ((if IntKind.i64.wrap ((↑s.size:Int)+1)<IntKind.i64.wrap ((↑(qZ s 10):Int)+1) then IntKind.i64.wrap ((↑s.size:Int)+1) else IntKind.i64.wrap ((↑(qZ s 10):Int)+1))<9223372036854775808)))) (∃q_,aV gsE (aA gsR 0) gsF [1,1,1,1,1,1,1,1,0,0] 0 0 K q_ {tmps:=[(0,SV.str s),(1,SV.str (⟨#[10]⟩:ByteArray)),(2,SV.int .i64 0),(3,SV.int .i64 (IntKind.i64.wrap ((if IntKind.i64.wrap ((↑s.size:Int)+1)<IntKind.i64.wrap ((↑(qZ s 10):Int)+1) then IntKind.i64.wrap ((↑s.size:Int)+1) else IntKind.i64.wrap ((↑(qZ s 10):Int)+1)) - 1))),(9,SV.own 0 0 1 (if IntKind.i64.wrap ((↑s.size:Int)+1)<IntKind.i64.wrap ((↑(qZ s 10):Int)+1) then IntKind.i64.wrap ((↑s.size:Int)+1) else IntKind.i64.wrap ((↑(qZ s 10):Int)+1)).toNat),(10,SV.int .i64 0)],store:=[(0,some (SB.row 9 1 (if IntKind.i64.wrap ((↑s.size:Int)+1)<IntKind.i64.wrap ((↑(qZ s 10):Int)+1) then IntKind.i64.wrap ((↑s.size:Int)+1) else IntKind.i64.wrap ((↑(qZ s 10):Int)+1)).toNat fun (x:Nat)=>[SV.str (⟨#[]⟩:ByteArray)]))],nxt:=1,dirty:=[0],nt:=66}) (False)):=by kernel_rfl
theorem aDu(s:ByteArray)(n:Int)(N:Nat)(X:Nat->ByteArray)(i:Int)(K:Ex->St->Prop):aF gsE (aA gsR 0) gsF [1,1,1,1,1,1,1,1,0,0] 0 K (gsS s n N X i)=
 (Br (decide (i<n)) (Br ((⟨#[10]⟩:ByteArray)==s) (Br (decide (0<=i)&&decide (i<(↑N:Int))) (Br (decide (0+i.toNat<N)) (Br (true&&(decide (1<=(↑s.size:Int))&&decide ((↑s.size:Int)<=(↑s.size:Int)))) (K Ex.normal {tmps:=[(0,SV.str (s.extract 1 (↑s.size:Int).toNat)),(1,SV.str (⟨#[10]⟩:ByteArray)),(2,SV.int .i64 0),(3,SV.int .i64 n),(9,SV.own 0 0 1 N),(10,SV.int .i64 (IntKind.i64.wrap (i+1)))],store:=[(0,some (SB.row 9 1 N (bK (0+i.toNat) [SV.str (s.extract 0 0)] (w9 X))))],nxt:=1,dirty:=[0],nt:=66}) (False)) (False)) (False)) (Br (decide (iC s 10<0)) (K (Ex.exit 0) {tmps:=[(0,SV.str s),(1,SV.str (⟨#[10]⟩:ByteArray)),(2,SV.int .i64 0),(3,SV.int .i64 n),(9,SV.own 0 0 1 N),(10,SV.int .i64 i)],store:=[(0,some (SB.row 9 1 N (w9 X)))],nxt:=1,dirty:=[0],nt:=66}) (Br (true&&(decide (0<=IntKind.i64.wrap (iC s 10+0))&&decide (IntKind.i64.wrap (iC s 10+0)<=(↑s.size:Int)))) (Br (decide (0<=i)&&decide (i<(↑N:Int))) (Br (decide (0+i.toNat<N)) (Br (decide (0<=IntKind.i64.wrap (iC s 10+1))&&(decide (IntKind.i64.wrap (iC s 10+1)<=(↑s.size:Int))&&decide ((↑s.size:Int)<=(↑s.size:Int)))) (K Ex.normal {tmps:=[(0,SV.str (s.extract (IntKind.i64.wrap (iC s 10+1)).toNat (↑s.size:Int).toNat)),(1,SV.str (⟨#[10]⟩:ByteArray)),(2,SV.int .i64 0),(3,SV.int .i64 n),(9,SV.own 0 0 1 N),(10,SV.int .i64 (IntKind.i64.wrap (i+1)))],store:=[(0,some (SB.row 9 1 N (bK (0+i.toNat) [SV.str (s.extract 0 (IntKind.i64.wrap (iC s 10+0)).toNat)] (w9 X))))],nxt:=1,dirty:=[0],nt:=66}) (False)) (False)) (False)) (False)))) (K (Ex.exit 0) {tmps:=[(0,SV.str s),(1,SV.str (⟨#[10]⟩:ByteArray)),(2,SV.int .i64 0),(3,SV.int .i64 n),(9,SV.own 0 0 1 N),(10,SV.int .i64 i)],store:=[(0,some (SB.row 9 1 N (w9 X)))],nxt:=1,dirty:=[0],nt:=66})):=by kernel_rfl
theorem aDA(s:ByteArray)(n:Int)(N:Nat)(X:Nat->ByteArray)(i:Int)(K:KC):aB gsE (aA gsR 0) gsF [1,1,1,1,1,1,1,1,0,0] 0 K (.exit 0) (gsS s n N X i)=
 (Br (decide (0<=i)&&decide (i<(↑N:Int))) (Br (decide (0+i.toNat<N)) (Br (true&&(decide (0<=IntKind.i64.wrap (i+1))&&decide (IntKind.i64.wrap (i+1)<=(↑N:Int)))&&decide (N<9223372036854775808)) (Br (decide (0<IntKind.i64.wrap (i+1))) (K (SV.own 0 0 1 ((IntKind.i64.wrap (i+1)).toNat - 0)) [some (SB.row 9 1 N (bK (0+i.toNat) [SV.str s] (w9 X)))] []) (K (SV.ro 0 1 fun (x:Nat)=>[]) [] [])) (False)) (False)) (False)):=by kernel_rfl
theorem nI {α:Type} {R:List (Nat×eI)} {u:Nat->Nat} {B:bT Tryz.prog} {n:Nat} {k:FuncId} {xs:List SV} {e st:Nat} {f:α->List SV} {d0:α} {L:List α} (hf: ∀x,(f x).length=st)
  (h:okL xs-> ∀K:KC,lC e st f L K->cL R u B n k xs [] K):aE Tryz.prog k xs [] (.ro L.length st (aU f d0 L)) [] []:=
 vL hf (pM (fun _ hK=>MF d0 hK) fun h1 _ K hK=>bS (env:=tab.env B u (fun _=>false)) ⟨tab.htt,B.ok⟩ tab.mixed (fun n=>aY n R) tab.hft n _ _ _ K (h h1 K hK))
theorem aJf(l:List Int)(hb:bH l)(hl:l.length<=1048576)(K:KC)(hK:lC 9 1 kQ (pQ 10 [] l) K):
  cL gsR (fun _=>0) y0 5 165 [.str (bytesOf l),.str ⟨#[10]⟩,.int .i64 0,.int .i64 (-1)] [] K:=by
 have hN:=yQ 10 l []
 generalize hq:pQ 10 [] l=q at hN hK
 have hcnt:l.countP (· ==10)<=l.length:=List.countP_le_length
 rw [aEQ,aM,SS hb (by decide) (by decide)]
 have e:(if IntKind.i64.wrap ((l.length:Int)+1)<IntKind.i64.wrap (((l.countP (· ==10):Nat):Int)+1) then IntKind.i64.wrap ((l.length:Int)+1) else IntKind.i64.wrap (((l.countP (· ==10):Nat):Int)+1))=((q.length:Nat):Int):=by
  rw [fK,fK,if_neg (by omega)];omega
 rw [e]
 refine Br.of (fun _=> ?_) fun c=>absurd c (by simp only [bf,aw];omega)
 rw [am,show IntKind.i64.wrap ((q.length:Int) - 1)=((q.length - 1:Nat):Int) by rw [fK];omega]
 refine ⟨q.length+1, ?_⟩
 refine iH (fun a:List Int×(Nat->ByteArray)×Nat=>gsS (bytesOf a.1) ((q.length - 1:Nat):Int) q.length a.2.1 a.2.2) (fun a=>q.length - a.2.2)
  (fun a=>bH a.1/\a.1.length<=l.length/\pQ 10 [] a.1=q.drop a.2.2/\ ∀j,j<a.2.2->a.2.1 j=bytesOf (q.getD j [])) ?_ (q.length+1) (l,(fun _=>⟨#[]⟩),0) ⟨hb,av _,by rw [hq];rfl,fun j hj=>absurd hj (dn j)⟩ (by simp)
 rintro ⟨m,X,i⟩ ⟨h1,h2,h3,h4⟩ X' hX
 simp only at h1 h2 h3 h4 hX|-
 rw [aDu,aM,aHR h1 (by decide) (by decide)]
 simp only [wC,bi,am]
 rw [NE] at h3
 refine Br.of (fun c=> ?_) fun c=> ?_
 ·have c:=aa c
  cases hh:iN 10 m with
  |false=>
   rw [hh] at h3
   have:=(nU h3.symm).2.2
   have:=congrArg List.length this
   simp at this;omega
  |true=>
   rw [hh] at h3
   simp only [ar,dj] at h3|-
   obtain ⟨d1,d2,d3⟩:=nU h3.symm
   have hlen:=aE5 hh
   have next:X' (gsS (bytesOf (kF 10 m)) ((q.length - 1:Nat):Int) q.length (HP i (bytesOf (eM 10 m)) X) ((i+1:Nat):Int)):=by
    refine hX (kF 10 m,HP i (bytesOf (eM 10 m)) X,i+1) ⟨vS h1,by show (kF 10 m).length<=_;omega,d3.symm,fun j hj=> ?_⟩ (by show q.length - (i+1)<q.length - i;omega)
    have hj:j<i+1:=hj
    show HP i (bytesOf (eM 10 m)) X j=_
    unfold HP
    by_cases hji:j=i
    ·rw [ao hji,hji,d2];rfl
    ·rw [aj hji];exact h4 j (by omega)
   rw [aK (n:=q.length) d1 (by omega)]
   refine Br.of (fun e=> ?_) fun e=>Br.of (fun e2=>absurd e2 (by simp)) fun _=> ?_
   ·have hm:m=[10]:=by
     rw [lO,ci] at e
     have:=congrArg aD (ep e)
     rw [cX h1] at this
     rw [<- this];rfl
    subst hm
    refine Br.of (fun _=>Br.of (fun _=>Br.of (fun _=>next) fun e3=>absurd e3 (by decide)) fun e3=>absurd e3 (by simp;omega)) fun e3=>absurd e3 (by simp;omega)
   ·have w1:IntKind.i64.wrap (((eM 10 m).length:Int)+0)=(((eM 10 m).length:Nat):Int):=by rw [fK];omega
    have w2:IntKind.i64.wrap (((eM 10 m).length:Int)+1)=(((eM 10 m).length+1:Nat):Int):=by rw [fK];omega
    simp only [w1,w2,am,M3,Q4 hh]
    refine Br.of (fun _=>Br.of (fun _=>Br.of (fun _=>Br.of (fun _=>next) fun e3=>absurd e3 ?_) fun e3=>absurd e3 ?_) fun e3=>absurd e3 ?_) fun e3=>absurd e3 ?_<;>simp<;>omega
 ·have c:=ae c
  show aB gsE (aA gsR 0) gsF [1,1,1,1,1,1,1,1,0,0] 0 K (.exit 0) (gsS (bytesOf m) ((q.length - 1:Nat):Int) q.length X i)
  rw [aDA]
  simp only [wC,bi,am]
  have hlast:q.drop i=[m]:=by
   cases hh:iN 10 m with
   |true=>
    rw [hh] at h3
    obtain ⟨d1,_,d3⟩:=nU h3.symm
    have:=congrArg List.length d3
    rw [dc,yQ] at this
    omega
   |false=>rw [hh] at h3;exact h3.symm
  obtain ⟨d1,d2,d3⟩:=nU hlast
  have hi:i+1=q.length:=by
   have:=congrArg List.length d3
   rw [dc] at this
   simp at this;omega
  rw [aK (n:=q.length) d1 (by omega),hi]
  simp only [am,dk]
  refine Br.of (fun _=>Br.of (fun _=>Br.of (fun _=>Br.of (fun _=> ?_) fun e3=>absurd e3 ?_) fun e3=>absurd e3 ?_) fun e3=>absurd e3 ?_) fun e3=>absurd e3 ?_
  ·refine hK.2 _ (by intro h0;rw [h0] at d1;simp at d1) fun j hj=> ?_
   unfold w9 HP kQ
   by_cases hji:j=i
   ·subst hji
    have:=d2 []
    rw [bc,be hj] at this
    rw [ao rfl,show q[j]=m from this];rfl
   ·rw [aj hji]
    have:=h4 j (by omega)
    rw [bc,be hj] at this
    rw [show q[j]=q[j] from rfl]
    simp only [ap]
    rw [this];rfl
  all_goals simp
  all_goals first
   |omega
   |(intro h0;rw [h0] at d1;simp at d1)
theorem d9(s t:ByteArray)(h:(t==⟨#[10]⟩)=true):aE Tryz.prog 125 [.str s,.str t] [] (.str (bytesOf (qY (aD s)))) [] []:=by
 rw [lO,ci] at h
 obtain rfl:t=⟨#[10]⟩:=ep h
 refine aS y0 4 fun ⟨hs,_⟩ _ K hK=> ?_
 have hs:s.size<9223372036854775808:=hs
 rw [aL2]
 exact aB5 hs hK
theorem cB(s t:ByteArray)(h:(t==⟨#[10]⟩&&decide (s.size<=1048576))=true):aE Tryz.prog 165 [.str s,.str t,.int .i64 0,.int .i64 (-1)] [] (.ro (pQ 10 [] (aD s)).length 1 (aG (pQ 10 [] (aD s)))) [] []:=by
 simp only [af,ak] at h
 rw [lO,ci] at h
 obtain rfl:t=⟨#[10]⟩:=ep h.1
 refine nI (R:=gsR) (u:=fun _=>0) (B:=y0) (n:=5) (e:=9) (fun _=>rfl) fun _ K hK=> ?_
 have:=aJf (aD s) (dJ s) (by rw [cF];exact h.2) K hK
 rw [fC] at this
 exact this
def aIh :List SV->List (Option SB)->Option (Bool×SV×List (Option SB)×List Nat)
 | [.str s,.str t],[]=>some (t==⟨#[10]⟩,.str (bytesOf (qY (aD s))),[],[])
 |_,_=>none
def VR :List SV->List (Option SB)->Option (Bool×SV×List (Option SB)×List Nat)
 | [.str s,.str t,.int .i64 0,.int .i64 (-1)],[]=>some (t==⟨#[10]⟩&&decide (s.size<=1048576),.ro (pQ 10 [] (aD s)).length 1 (aG (pQ 10 [] (aD s))),[],[])
 |_,_=>none
noncomputable def y1 :bT Tryz.prog:=((y0).add 125 (iU aIh) (cE fun xs σ v σ' d h=>by
  unfold aIh at h;split at h
  ·simp only [an,bn] at h
   obtain ⟨h1,rfl,rfl,rfl⟩:=h
   first|exact d9 h1|exact d9 _ h1|exact d9 _ _ h1|exact d9 _ _ _ h1|exact d9 _ _ _ _ h1|exact d9 _ _ _ _ _ h1|exact d9 _ _ _ _ _ _ h1|exact d9 _ _ _ _ _ _ _ h1|exact d9 _ _ _ _ _ _ _ _ h1|exact d9 _ _ _ _ _ _ _ _ _ h1|exact d9 _ _ _ _ _ _ _ _ _ _ h1|exact d9 _ _ _ _ _ _ _ _ _ _ _ h1|exact d9 _ _ _ _ _ _ _ _ _ _ _ _ h1|exact d9 (aa h1)|exact d9 _ (aa h1)|exact d9 _ _ (aa h1)|exact d9 _ _ _ (aa h1)|exact d9 _ _ _ _ (aa h1)|exact d9 _ _ _ _ _ (aa h1)|exact d9 _ _ _ _ _ _ (aa h1)|exact d9 _ _ _ _ _ _ _ (aa h1)|exact d9 _ _ _ _ _ _ _ _ (aa h1)|exact d9 _ _ _ _ _ _ _ _ _ (aa h1)|exact d9 _ _ _ _ _ _ _ _ _ _ (aa h1)|exact d9 _ _ _ _ _ _ _ _ _ _ _ (aa h1)|exact d9 _ _ _ _ _ _ _ _ _ _ _ _ (aa h1)
  ·cases h)).add 165 (iU VR) (cE fun xs σ v σ' d h=>by
  unfold VR at h;split at h
  ·simp only [an,bn] at h
   obtain ⟨h1,rfl,rfl,rfl⟩:=h
   first|exact cB h1|exact cB _ h1|exact cB _ _ h1|exact cB _ _ _ h1|exact cB _ _ _ _ h1|exact cB _ _ _ _ _ h1|exact cB _ _ _ _ _ _ h1|exact cB _ _ _ _ _ _ _ h1|exact cB _ _ _ _ _ _ _ _ h1|exact cB _ _ _ _ _ _ _ _ _ h1|exact cB _ _ _ _ _ _ _ _ _ _ h1|exact cB _ _ _ _ _ _ _ _ _ _ _ h1|exact cB _ _ _ _ _ _ _ _ _ _ _ _ h1|exact cB (aa h1)|exact cB _ (aa h1)|exact cB _ _ (aa h1)|exact cB _ _ _ (aa h1)|exact cB _ _ _ _ (aa h1)|exact cB _ _ _ _ _ (aa h1)|exact cB _ _ _ _ _ _ (aa h1)|exact cB _ _ _ _ _ _ _ (aa h1)|exact cB _ _ _ _ _ _ _ _ (aa h1)|exact cB _ _ _ _ _ _ _ _ _ (aa h1)|exact cB _ _ _ _ _ _ _ _ _ _ (aa h1)|exact cB _ _ _ _ _ _ _ _ _ _ _ (aa h1)|exact cB _ _ _ _ _ _ _ _ _ _ _ _ (aa h1)
  ·cases h)
theorem O5(s:ByteArray)(K:KC):run y1 3 74 [.str s] [] K=
 (Br (s==(⟨#[]⟩:ByteArray)) (K SV.nils [] []) (Br (true&&decide ((bytesOf (qY (aD s))).size<=1048576)) (K (SV.ro (pQ 10 [] (aD (bytesOf (qY (aD s))))).length 1 (aG (pQ 10 [] (aD (bytesOf (qY (aD s))))))) [] []) (False))):=by kernel_rfl
theorem UZ {α:Type} {R:List (Nat×eI)} {u:Nat->Nat} {B:bT Tryz.prog} {n:Nat} {k:FuncId} {xs:List SV} {e st:Nat} {f:α->List SV} {d0:α} {L:List α} (hf: ∀x,(f x).length=st) (hi: ∀x,ids.idsL (f x)=[])
  (h:okL xs-> ∀K:KC,u2 e st f L K->cL R u B n k xs [] K):aE Tryz.prog k xs [] (.ro L.length st (aU f d0 L)) [] []:=
 LI hf hi (pM (fun _ hK=>G0 d0 hK) fun h1 _ K hK=>bS (env:=tab.env B u (fun _=>false)) ⟨tab.htt,B.ok⟩ tab.mixed (fun n=>aY n R) tab.hft n _ _ _ K (h h1 K hK))
theorem cQ(s:ByteArray)(h:s.size<=1048576):aE Tryz.prog 74 [.str s] [] (.ro (fR (aD s)).length 1 (aG (fR (aD s)))) [] []:=by
 by_cases h0:aD s=[]
 ·rw [h0]
  refine oB (aS y1 3 fun _ _ K hK=> ?_)
  rw [O5]
  refine Br.of (fun _=>hK) fun c=> ?_
  have:s=bytesOf []:=by rw [<- h0,fC]
  rw [this] at c;cases c
 ·refine aS y1 3 fun _ _ K hK=> ?_
  rw [O5]
  have hz:(s==(⟨#[]⟩:ByteArray))=false:=by
   have:=w6 (aD s)
   rw [fC] at this
   rw [this]
   refine aj fun h=>h0 (fg (by omega))
  rw [hz]
  have hch:bH (qY (aD s)):=fun x hx=>by
   rw [CY] at hx
   cases hc:(aD s).drop ((aD s).length - 1)==[10] with
   |true=>rw [hc] at hx;exact dJ s x (List.mem_of_mem_take hx)
   |false=>rw [hc] at hx;exact dJ s x hx
  have hlen:(qY (aD s)).length<=s.size:=by
   rw [CY,<- cF]
   cases (aD s).drop ((aD s).length - 1)==[10] with
   |true=>simp
   |false=>exact av _
  rw [cX hch,aB4 _ _ h0,aM]
  exact Br.of (fun c=>by cases c) fun _=>Br.of (fun _=>hK) fun c=>absurd c (by simp;omega)
theorem aE7(s:ByteArray)(K:KC):run t4 5 126 [.str s,.str ⟨#[35]⟩] [] K=
 (Br ((⟨#[35]⟩:ByteArray)==s) (Br (true&&(decide (1<=(↑s.size:Int))&&decide ((↑s.size:Int)<=(↑s.size:Int)))) (K (SV.tup [SV.str (s.extract 0 0),SV.str (s.extract 1 (↑s.size:Int).toNat),SV.bool true]) [] []) (False)) (Br (decide (iC s 35>=0)) (Br (true&&(decide (0<=iC s 35)&&decide (iC s 35<=(↑s.size:Int)))) (Br (decide (0<=IntKind.i64.wrap (iC s 35+1))&&(decide (IntKind.i64.wrap (iC s 35+1)<=(↑s.size:Int))&&decide ((↑s.size:Int)<=(↑s.size:Int)))) (K (SV.tup [SV.str (s.extract 0 (iC s 35).toNat),SV.str (s.extract (IntKind.i64.wrap (iC s 35+1)).toNat (↑s.size:Int).toNat),SV.bool true]) [] []) (False)) (False)) (K (SV.tup [SV.str s,SV.str (⟨#[]⟩:ByteArray),SV.bool false]) [] []))):=by kernel_rfl
abbrev spT :TypeId:=236
def ffR :List (Nat×eI):=[(0,⟨[0,1,5,6,14],[0,1],[0,1,2,3,4,5],2,[(5,0)]⟩),(2,⟨[0,9,47,48,49],[0,2],[0,1,2,3,4,5],3,[(47,0),(9,2)]⟩)]
def ffS(s:ByteArray)(S:List (Int×Int))(st:Int)(pos:Nat):St:=⟨[(0,.str s),(1,.fn (.func 128) [] []),(5,.own 0 0 2 S.length),(6,.int .i64 st),(14,.ptr 1 0)],[(0,some (.row spT 2 S.length (spG S))),(1,some (.iter s pos))],2,[0,1,2,3,4,5],65⟩
def fgS(s:ByteArray)(S:List (Int×Int))(N:Nat)(X:Nat->ByteArray)(i:Int):St:=⟨[(0,.str s),(9,.own 2 0 1 N),(47,.own 0 0 2 S.length),(48,.int .i64 S.length),(49,.int .i64 i)],[(0,some (.row spT 2 S.length (spG S))),(2,some (.row 9 1 N (w9 X)))],3,[0,1,2,3,4,5],65⟩
noncomputable abbrev ffE :Env:=fG ffR (fun _=>0) y1 2
noncomputable abbrev ffF :Func:=Tryz.f127
abbrev ffP :List Nat:=[1,1,1,0,1,0]
abbrev fgP :List Nat:=[1,1,1,1,1,1,0,1,0]
theorem aFb(s:ByteArray)(K:KC):cL ffR (fun _=>0) y1 3 127 [.str s,.fn (.func 128) [] []] [] K=
 (∃q_,aV ffE (aA ffR 0) ffF ffP 0 0 K q_ {tmps:=[(0,SV.str s),(1,SV.fn (Fn.func 128) [] []),(5,SV.own 0 0 2 0),(6,SV.int .i64 (-1)),(14,SV.ptr 1 0)],store:=[(0,some (SB.row 236 2 0 fun (x:Nat)=>[SV.int .i64 0,SV.int .i64 0])),(1,some (SB.iter s 0))],nxt:=2,dirty:=[0,1,2,3,4,5],nt:=65}):=by kernel_rfl
theorem aCB(s:ByteArray)(S:List (Int×Int))(st:Int)(pos:Nat)(K:Ex->St->Prop):aF ffE (aA ffR 0) ffF ffP 0 K (ffS s S st pos)=
 (Br (decide (pos<s.size)) (Br ((↑(Utf8.decode s pos).fst:Int)==32) (Br (decide (st>=0)) (Br (decide ((S.length+1)*16<=1099511627776)&&decide (S.length+1<9223372036854775808)&&decide (S.length=S.length)) (K Ex.normal {tmps:=[(0,SV.str s),(1,SV.fn (Fn.func 128) [] []),(5,SV.own 0 0 2 (S.length+1)),(6,SV.int .i64 (IntKind.i64.wrap (↑(BitVec.ofInt IntKind.i64.bits (if IntKind.i64.signed=true then -1 else IntKind.i64.max)^^^BitVec.ofInt IntKind.i64.bits st).toNat:Int))),(14,SV.ptr 1 0)],store:=[(0,some (SB.row 236 2 (S.length+1) (bK S.length [SV.int .i64 st,SV.int .i64 (↑pos:Int)] (spG S)))),(1,some (SB.iter s (pos+(Utf8.decode s pos).snd)))],nxt:=2,dirty:=[0,1,2,3,4,5],nt:=65}) (False)) (K Ex.normal {tmps:=[(0,SV.str s),(1,SV.fn (Fn.func 128) [] []),(5,SV.own 0 0 2 S.length),(6,SV.int .i64 st),(14,SV.ptr 1 0)],store:=[(0,some (SB.row 236 2 S.length (spG S))),(1,some (SB.iter s (pos+(Utf8.decode s pos).snd)))],nxt:=2,dirty:=[0,1,2,3,4,5],nt:=65})) (Br ((↑(Utf8.decode s pos).fst:Int)==9) (Br (decide (st>=0)) (Br (decide ((S.length+1)*16<=1099511627776)&&decide (S.length+1<9223372036854775808)&&decide (S.length=S.length)) (K Ex.normal {tmps:=[(0,SV.str s),(1,SV.fn (Fn.func 128) [] []),(5,SV.own 0 0 2 (S.length+1)),(6,SV.int .i64 (IntKind.i64.wrap (↑(BitVec.ofInt IntKind.i64.bits (if IntKind.i64.signed=true then -1 else IntKind.i64.max)^^^BitVec.ofInt IntKind.i64.bits st).toNat:Int))),(14,SV.ptr 1 0)],store:=[(0,some (SB.row 236 2 (S.length+1) (bK S.length [SV.int .i64 st,SV.int .i64 (↑pos:Int)] (spG S)))),(1,some (SB.iter s (pos+(Utf8.decode s pos).snd)))],nxt:=2,dirty:=[0,1,2,3,4,5],nt:=65}) (False)) (K Ex.normal {tmps:=[(0,SV.str s),(1,SV.fn (Fn.func 128) [] []),(5,SV.own 0 0 2 S.length),(6,SV.int .i64 st),(14,SV.ptr 1 0)],store:=[(0,some (SB.row 236 2 S.length (spG S))),(1,some (SB.iter s (pos+(Utf8.decode s pos).snd)))],nxt:=2,dirty:=[0,1,2,3,4,5],nt:=65})) (Br (decide (st<0)) (K Ex.normal {tmps:=[(0,SV.str s),(1,SV.fn (Fn.func 128) [] []),(5,SV.own 0 0 2 S.length),(6,SV.int .i64 (↑pos:Int)),(14,SV.ptr 1 0)],store:=[(0,some (SB.row 236 2 S.length (spG S))),(1,some (SB.iter s (pos+(Utf8.decode s pos).snd)))],nxt:=2,dirty:=[0,1,2,3,4,5],nt:=65}) (K Ex.normal {tmps:=[(0,SV.str s),(1,SV.fn (Fn.func 128) [] []),(5,SV.own 0 0 2 S.length),(6,SV.int .i64 st),(14,SV.ptr 1 0)],store:=[(0,some (SB.row 236 2 S.length (spG S))),(1,some (SB.iter s (pos+(Utf8.decode s pos).snd)))],nxt:=2,dirty:=[0,1,2,3,4,5],nt:=65})))) (K (Ex.exit 0) {tmps:=[(0,SV.str s),(1,SV.fn (Fn.func 128) [] []),(5,SV.own 0 0 2 S.length),(6,SV.int .i64 st),(14,SV.ptr 1 0)],store:=[(0,some (SB.row 236 2 S.length (spG S))),(1,some (SB.iter s pos))],nxt:=2,dirty:=[0,1,2,3,4,5],nt:=65})):=by kernel_rfl
theorem aFa(s:ByteArray)(S:List (Int×Int))(st:Int)(pos:Nat)(K:KC):aB ffE (aA ffR 0) ffF ffP 0 K (.exit 0) (ffS s S st pos)=
 (Br (decide (st>=0)) (Br (decide ((S.length+1)*16<=1099511627776)&&decide (S.length+1<9223372036854775808)&&decide (S.length=S.length)) (Br (decide (0<=(↑(S.length+1):Int))&&(decide ((↑(S.length+1):Int)<=(↑(S.length+1):Int))&&(decide ((↑(S.length+1):Int)*16<=1099511627776)&&decide ((↑(S.length+1):Int)<9223372036854775808)))) (∃q_,aV ffE (aA ffR 0) ffF fgP 2 0 K q_ {tmps:=[(0,SV.str s),(9,SV.own 2 0 1 (↑(S.length+1):Int).toNat),(47,SV.own 0 0 2 (S.length+1)),(48,SV.int .i64 (↑(S.length+1):Int)),(49,SV.int .i64 0)],store:=[(0,some (SB.row 236 2 (S.length+1) (bK S.length [SV.int .i64 st,SV.int .i64 (↑s.size:Int)] (spG S)))),(2,some (SB.row 9 1 (↑(S.length+1):Int).toNat fun (x:Nat)=>[SV.str (⟨#[]⟩:ByteArray)]))],nxt:=3,dirty:=[0,1,2,3,4,5],nt:=65}) (False)) (False)) (Br (decide (0<=(↑S.length:Int))&&(decide ((↑S.length:Int)<=(↑S.length:Int))&&(decide ((↑S.length:Int)*16<=1099511627776)&&decide ((↑S.length:Int)<9223372036854775808)))) (∃q_,aV ffE (aA ffR 0) ffF fgP 2 0 K q_ {tmps:=[(0,SV.str s),(9,SV.own 2 0 1 (↑S.length:Int).toNat),(47,SV.own 0 0 2 S.length),(48,SV.int .i64 (↑S.length:Int)),(49,SV.int .i64 0)],store:=[(0,some (SB.row 236 2 S.length (spG S))),(2,some (SB.row 9 1 (↑S.length:Int).toNat fun (x:Nat)=>[SV.str (⟨#[]⟩:ByteArray)]))],nxt:=3,dirty:=[0,1,2,3,4,5],nt:=65}) (False))):=by kernel_rfl
theorem aED(s:ByteArray)(S:List (Int×Int))(N:Nat)(X:Nat->ByteArray)(i:Nat)(K:Ex->St->Prop):aF ffE (aA ffR 0) ffF fgP 2 K (fgS s S N X i)=
 (Br (decide ((↑i:Int)<(↑S.length:Int))) (Br (decide (0<=(↑i:Int))&&decide ((↑i:Int)<(↑S.length:Int))) (Br (decide (0+(↑i:Int).toNat<S.length)) (Br (decide (0<=(S.getD (0+(↑i:Int).toNat) (0,0)).fst)&&(decide ((S.getD (0+(↑i:Int).toNat) (0,0)).fst<=(S.getD (0+(↑i:Int).toNat) (0,0)).snd)&&decide ((S.getD (0+(↑i:Int).toNat) (0,0)).snd<=(↑s.size:Int)))) (Br (decide (0<=(↑i:Int))&&decide ((↑i:Int)<(↑N:Int))) (Br (decide (0+(↑i:Int).toNat<N)) (K Ex.normal {tmps:=[(0,SV.str s),(9,SV.own 2 0 1 N),(47,SV.own 0 0 2 S.length),(48,SV.int .i64 (↑S.length:Int)),(49,SV.int .i64 (IntKind.i64.wrap ((↑i:Int)+1)))],store:=[(0,some (SB.row 236 2 S.length (spG S))),(2,some (SB.row 9 1 N (bK (0+(↑i:Int).toNat) [SV.str (s.extract (S.getD (0+(↑i:Int).toNat) (0,0)).fst.toNat (S.getD (0+(↑i:Int).toNat) (0,0)).snd.toNat)] (w9 X))))],nxt:=3,dirty:=[0,1,2,3,4,5],nt:=65}) (False)) (False)) (False)) (False)) (False)) (K (Ex.exit 2) {tmps:=[(0,SV.str s),(9,SV.own 2 0 1 N),(47,SV.own 0 0 2 S.length),(48,SV.int .i64 (↑S.length:Int)),(49,SV.int .i64 (↑i:Int))],store:=[(0,some (SB.row 236 2 S.length (spG S))),(2,some (SB.row 9 1 N (w9 X)))],nxt:=3,dirty:=[0,1,2,3,4,5],nt:=65})):=by kernel_rfl
theorem aCZ(s:ByteArray)(S:List (Int×Int))(N:Nat)(X:Nat->ByteArray)(i:Nat)(K:KC):aB ffE (aA ffR 0) ffF fgP 0 K (.exit 2) (fgS s S N X i)=
 (K (SV.own 0 0 1 N) [some (SB.row 9 1 N (w9 X))] []):=by kernel_rfl
theorem aEH(s:ByteArray):aE Tryz.prog 126 [.str s,.str ⟨#[35]⟩] [] (.tup [.str (bytesOf (eM 35 (aD s))),.str (bytesOf (kF 35 (aD s))),.bool (iN 35 (aD s))]) [] []:=by
 refine aS t4 5 fun ⟨hs,_⟩ _ K hK=> ?_
 have hs':s.size<9223372036854775808:=hs
 rw [aE7]
 have:=Z4 (dJ s) (by rw [cF];exact hs') hK
 rw [fC] at this
 exact this
def aIr :List SV->List (Option SB)->Option (Bool×SV×List (Option SB)×List Nat)
 | [.str s,.str t],[]=>some (t==⟨#[35]⟩,.tup [.str (bytesOf (eM 35 (aD s))),.str (bytesOf (kF 35 (aD s))),.bool (iN 35 (aD s))],[],[])
 |_,_=>none
theorem d8(s t:ByteArray)(h:(t==⟨#[35]⟩)=true):aE Tryz.prog 126 [.str s,.str t] [] (.tup [.str (bytesOf (eM 35 (aD s))),.str (bytesOf (kF 35 (aD s))),.bool (iN 35 (aD s))]) [] []:=by
 rw [lO,ci] at h
 obtain rfl:t=⟨#[35]⟩:=ep h
 exact aEH s
theorem aCd(s:ByteArray)(S:List (Int×Int))(hs:s.size<=1048576)(hS:S.length<=1048577)(hok: ∀x,x∈S->0<=x.1/\x.1<=x.2/\x.2<=(s.size:Int))(K:KC)(hK:u2 9 1 kQ (S.map (HB (aD s))) K):
  ∃q,aV ffE (aA ffR 0) ffF fgP 2 0 K q (fgS s S S.length (fun _=>⟨#[]⟩) 0):=by
 refine ⟨S.length+1,iH (fun a:Nat×(Nat->ByteArray)=>fgS s S S.length a.2 a.1) (fun a=>S.length - a.1) (fun a=>a.1<=S.length/\ ∀j,j<a.1->a.2 j=bytesOf (HB (aD s) (S.getD j (0,0)))) ?_ (S.length+1) (0,fun _=>⟨#[]⟩) ⟨cn _,fun j hj=>absurd hj (dn j)⟩ (by show S.length - 0<_;omega)⟩
 rintro ⟨i,X⟩ ⟨h1,h2⟩ Z hZ
 simp only at h1 h2 hZ|-
 rw [aED]
 simp only [bi,am]
 refine Br.of (fun c=> ?_) fun c=> ?_
 ·have c:i<S.length:=by have:=aa c;omega
  have hm:S.getD i (0,0)∈S:=yL (d:=(0,0)) c
  obtain ⟨k1,k2,k3⟩:=hok _ hm
  have he:s.extract (S.getD i (0,0)).1.toNat (S.getD i (0,0)).2.toNat=bytesOf (HB (aD s) (S.getD i (0,0))):=by
   conv=>lhs;rw [<- fC s]
   exact eE _ _ _
  simp only [wC,he]
  rw [aK c (by omega)]
  refine Br.of (fun _=>Br.of (fun _=>Br.of (fun _=>Br.of (fun _=>Br.of (fun _=> ?_) fun f=>absurd c (ae f)) fun f=>eA c f) fun f=> ?_) fun f=>absurd c (ae f)) fun f=>eA c f
  ·refine hZ (i+1,HP i (bytesOf (HB (aD s) (S.getD i (0,0)))) X) ⟨c,fun j hj=> ?_⟩ (by show S.length - (i+1)<S.length - i;omega)
   have hj:j<i+1:=hj
   show HP i _ X j=_
   unfold HP
   by_cases hji:j=i
   ·rw [ao hji,hji];rfl
   ·rw [aj hji];exact h2 j (by omega)
  ·simp only [bf,aw] at f;omega
 ·have c:i=S.length:=by have:=ae c;omega
  subst c
  show aB ffE (aA ffR 0) ffF fgP 0 K (.exit 2) (fgS s S S.length X (S.length:Nat))
  rw [aCZ]
  refine hK _ _ (.inr (.inl ⟨w9 X,by rw [gu],by rw [gu],fun j hj=> ?_⟩))
  rw [gu] at hj
  rw [List.getElem_map]
  have:=h2 j hj
  rw [bc,be hj] at this
  unfold w9 kQ
  rw [this];rfl
theorem aJC(s:ByteArray)(hs:s.size<=1048576)(K:KC)(hK:u2 9 1 kQ (mC [] (aD s)) K):cL ffR (fun _=>0) y1 3 127 [.str s,.fn (.func 128) [] []] [] K:=by
 rw [aFb]
 have hl:=cF s
 refine ⟨s.size+1,iH (fun a:List (Int×Int)×Int×Nat=>ffS s a.1 a.2.1 a.2.2) (fun a=>s.size - a.2.2) (fun a=>ffI (aD s) a.1 a.2.1 a.2.2) ?_ (s.size+1) ([],-1,0) ⟨cn _,av _,fun h=>absurd h (by decide),fun x hx=>(by cases hx),rfl⟩ (by show s.size - 0<_;omega)⟩
 rintro ⟨S,st,pos⟩ h X hX
 simp only at h hX|-
 have hlen:=h.len
 have hle:=h.le
 rw [aCB]
 have hpush: ∀a b:Int,bK S.length [SV.int .i64 a,SV.int .i64 b] (spG S)=spG (S++[(a,b)]):=fun a b=>DC (f:=spC) (d:=(0,0)) (x:=(a,b)) (L:=S)
 have hlen1: ∀x:Int×Int,S.length+1=(S++[x]).length:=fun x=>by simp
 have hexit:s.size<=pos->aB ffE (aA ffR 0) ffF ffP 0 K (.exit 0) (ffS s S st pos):=by
  intro hp
  rw [aFa]
  refine Br.of (fun c=> ?_) fun c=> ?_
  ·have c:=aa c
   obtain ⟨e1,e2⟩:=aGo h (by omega) c
   rw [hl] at e1 e2
   rw [hpush]
   refine Br.of (fun _=>Br.of (fun _=> ?_) fun f=> ?_) fun f=>I7 (m:=S.length) (by omega) f
   ·simp only [am,hlen1 (st,(s.size:Int))]
    exact aCd s _ hs (by simp;omega) e2 K (by rw [e1];exact hK)
   ·simp only [bf,aw] at f;omega
  ·have c:=ae c
   have e1:=aHo h (by omega) (by omega)
   refine Br.of (fun _=> ?_) fun f=> ?_
   ·simp only [am]
    exact aCd s S hs (by omega) (fun x hx=>by have:=h.ok x hx;omega) K (by rw [e1];exact hK)
   ·simp only [bf,aw] at f;omega
 refine Br.of (fun c=> ?_) fun c=>hexit (by have:=ae c;omega)
 have c:=aa c
 obtain ⟨d1,d2,_⟩:=K6 s pos c
 have sep:((((Utf8.decode s pos).1:Nat):Int)=32\/(((Utf8.decode s pos).1:Nat):Int)=9)->gM X (aB ffE (aA ffR 0) ffF ffP 0 K) .normal (ffS s (bif decide (st>=0) then S++[(st,(pos:Int))] else S) (bif decide (st>=0) then -1 - st else st) (pos+(Utf8.decode s pos).2)):=by
  intro hs'
  obtain ⟨r1,r2⟩:=aCn c hs'
  rw [r2]
  cases hst:decide (st>=0) with
  |true=>
   have:=aa hst
   exact hX (S++[(st,(pos:Int))],-1 - st,pos+1) (aGx h (by omega) r1 this) (by show s.size - (pos+1)<s.size - pos;omega)
  |false=>
   have:=ae hst
   exact hX (S,st,pos+1) (aGC h (by omega) r1 (show st<0 by omega)) (by show s.size - (pos+1)<s.size - pos;omega)
 have hst1:=h.st1
 have sepc:((((Utf8.decode s pos).1:Nat):Int)=32\/(((Utf8.decode s pos).1:Nat):Int)=9)-> ∀A B:Prop,(decide (st>=0)=true->gM X (aB ffE (aA ffR 0) ffF ffP 0 K) .normal (ffS s (S++[(st,(pos:Int))]) (-1 - st) (pos+(Utf8.decode s pos).2))->A)->(decide (st>=0)=false->gM X (aB ffE (aA ffR 0) ffF ffP 0 K) .normal (ffS s S st (pos+(Utf8.decode s pos).2))->B)->Br (decide (st>=0)) A B:=by
  intro hs' A B hA hB
  have hh:=sep hs'
  refine Br.of (fun e=>hA e ?_) fun e=>hB e ?_
  ·rw [e] at hh;exact hh
  ·rw [e] at hh;exact hh
 have fin1:decide (st>=0)=true->gM X (aB ffE (aA ffR 0) ffF ffP 0 K) .normal (ffS s (S++[(st,(pos:Int))]) (-1 - st) (pos+(Utf8.decode s pos).2))->
   Br (decide ((S.length+1)*16<=1099511627776)&&decide (S.length+1<9223372036854775808)&&decide (S.length=S.length)) (gM X (aB ffE (aA ffR 0) ffF ffP 0 K) .normal {tmps:=[(0,SV.str s),(1,SV.fn (Fn.func 128) [] []),(5,SV.own 0 0 2 (S.length+1)),(6,SV.int .i64 (IntKind.i64.wrap (↑(BitVec.ofInt IntKind.i64.bits (if IntKind.i64.signed=true then -1 else IntKind.i64.max)^^^BitVec.ofInt IntKind.i64.bits st).toNat:Int))),(14,SV.ptr 1 0)],store:=[(0,some (SB.row spT 2 (S.length+1) (bK S.length [SV.int .i64 st,SV.int .i64 (↑pos:Int)] (spG S)))),(1,some (SB.iter s (pos+(Utf8.decode s pos).snd)))],nxt:=2,dirty:=[0,1,2,3,4,5],nt:=65}) False:=by
  intro e hh
  have e:=aa e
  have:=hst1 e
  refine Br.of (fun _=> ?_) fun f=>I7 (m:=S.length) (by omega) f
  rw [aFH e (by omega),hpush,hlen1 (st,(pos:Int))]
  exact hh
 refine Br.of (fun e=>sepc (.inl (by simpa using e)) _ _ fin1 fun _ hh=>hh) fun e=>Br.of (fun e2=>sepc (.inr (by simpa using e2)) _ _ fin1 fun _ hh=>hh) fun e2=> ?_
 have hw:=aHB h d1 (by omega) (aAJ c (by simpa using e) (by simpa using e2))
 have hx:=hX (S,(bif decide (st<0) then (pos:Int) else st),pos+(Utf8.decode s pos).2) hw (by show s.size - (pos+(Utf8.decode s pos).2)<s.size - pos;omega)
 refine Br.of (fun e3=> ?_) fun e3=> ?_
 ·rw [e3] at hx;exact hx
 ·rw [e3] at hx;exact hx
theorem bY(s:ByteArray)(h:s.size<=1048576):aE Tryz.prog 127 [.str s,.fn (.func 128) [] []] [] (.ro (mC [] (aD s)).length 1 (aG (mC [] (aD s)))) [] []:=
 UZ (R:=ffR) (u:=fun _=>0) (B:=y1) (n:=3) (e:=9) (fun _=>rfl) (fun _=>rfl) fun _ K hK=>aJC s h K hK
def WF :List SV->List (Option SB)->Option (Bool×SV×List (Option SB)×List Nat)
 | [.str s,.fn (.func 128) [] []],[]=>some (decide (s.size<=1048576),.ro (mC [] (aD s)).length 1 (aG (mC [] (aD s))),[],[])
 |_,_=>none
noncomputable def y2 :bT Tryz.prog:=((y1).add 126 (iU aIr) (cE fun xs σ v σ' d h=>by
  unfold aIr at h;split at h
  ·simp only [an,bn] at h
   obtain ⟨h1,rfl,rfl,rfl⟩:=h
   first|exact d8 h1|exact d8 _ h1|exact d8 _ _ h1|exact d8 _ _ _ h1|exact d8 _ _ _ _ h1|exact d8 _ _ _ _ _ h1|exact d8 _ _ _ _ _ _ h1|exact d8 _ _ _ _ _ _ _ h1|exact d8 _ _ _ _ _ _ _ _ h1|exact d8 _ _ _ _ _ _ _ _ _ h1|exact d8 _ _ _ _ _ _ _ _ _ _ h1|exact d8 _ _ _ _ _ _ _ _ _ _ _ h1|exact d8 _ _ _ _ _ _ _ _ _ _ _ _ h1|exact d8 (aa h1)|exact d8 _ (aa h1)|exact d8 _ _ (aa h1)|exact d8 _ _ _ (aa h1)|exact d8 _ _ _ _ (aa h1)|exact d8 _ _ _ _ _ (aa h1)|exact d8 _ _ _ _ _ _ (aa h1)|exact d8 _ _ _ _ _ _ _ (aa h1)|exact d8 _ _ _ _ _ _ _ _ (aa h1)|exact d8 _ _ _ _ _ _ _ _ _ (aa h1)|exact d8 _ _ _ _ _ _ _ _ _ _ (aa h1)|exact d8 _ _ _ _ _ _ _ _ _ _ _ (aa h1)|exact d8 _ _ _ _ _ _ _ _ _ _ _ _ (aa h1)
  ·cases h)).add 127 (iU WF) (cE fun xs σ v σ' d h=>by
  unfold WF at h;split at h
  ·simp only [an,bn] at h
   obtain ⟨h1,rfl,rfl,rfl⟩:=h
   first|exact bY h1|exact bY _ h1|exact bY _ _ h1|exact bY _ _ _ h1|exact bY _ _ _ _ h1|exact bY _ _ _ _ _ h1|exact bY _ _ _ _ _ _ h1|exact bY _ _ _ _ _ _ _ h1|exact bY _ _ _ _ _ _ _ _ h1|exact bY _ _ _ _ _ _ _ _ _ h1|exact bY _ _ _ _ _ _ _ _ _ _ h1|exact bY _ _ _ _ _ _ _ _ _ _ _ h1|exact bY _ _ _ _ _ _ _ _ _ _ _ _ h1|exact bY (aa h1)|exact bY _ (aa h1)|exact bY _ _ (aa h1)|exact bY _ _ _ (aa h1)|exact bY _ _ _ _ (aa h1)|exact bY _ _ _ _ _ (aa h1)|exact bY _ _ _ _ _ _ (aa h1)|exact bY _ _ _ _ _ _ _ (aa h1)|exact bY _ _ _ _ _ _ _ _ (aa h1)|exact bY _ _ _ _ _ _ _ _ _ (aa h1)|exact bY _ _ _ _ _ _ _ _ _ _ (aa h1)|exact bY _ _ _ _ _ _ _ _ _ _ _ (aa h1)|exact bY _ _ _ _ _ _ _ _ _ _ _ _ (aa h1)
  ·cases h)
theorem ZV(s:ByteArray)(K:KC):run y2 3 75 [.str s] [] K=
 (Br (decide ((bytesOf (eM 35 (aD s))).size<=1048576)) (K (SV.ro (mC [] (aD (bytesOf (eM 35 (aD s))))).length 1 (aG (mC [] (aD (bytesOf (eM 35 (aD s))))))) [] []) (False)):=by kernel_rfl
theorem cA(s:ByteArray)(h:s.size<=1048576):aE Tryz.prog 75 [.str s] [] (.ro (cH (aD s)).length 1 (aG (cH (aD s)))) [] []:=by
 refine aS y2 3 fun _ _ K hK=> ?_
 rw [ZV]
 rw [cX (uS (dJ s)),aM]
 have hlen:(eM 35 (aD s)).length<=(aD s).length:=by rw [<- sB,du];exact Nat.min_le_right _ _
 rw [cF] at hlen
 refine Br.of (fun _=>hK) fun c=> ?_
 have:=ae c;omega
def WV :List SV->List (Option SB)->Option (Bool×SV×List (Option SB)×List Nat)
 | [.str s],[]=>some (decide (s.size<=1048576),.ro (cH (aD s)).length 1 (aG (cH (aD s))),[],[])
 |_,_=>none
def aCE :List SV->List (Option SB)->Option (Bool×SV×List (Option SB)×List Nat)
 | [.str s],[]=>some (decide (s.size<=1048576),.ro (fR (aD s)).length 1 (aG (fR (aD s))),[],[])
 |_,_=>none
noncomputable def y3 :bT Tryz.prog:=((y2).add 75 (iU WV) (cE fun xs σ v σ' d h=>by
  unfold WV at h;split at h
  ·simp only [an,bn] at h
   obtain ⟨h1,rfl,rfl,rfl⟩:=h
   first|exact cA h1|exact cA _ h1|exact cA _ _ h1|exact cA _ _ _ h1|exact cA _ _ _ _ h1|exact cA _ _ _ _ _ h1|exact cA _ _ _ _ _ _ h1|exact cA _ _ _ _ _ _ _ h1|exact cA _ _ _ _ _ _ _ _ h1|exact cA _ _ _ _ _ _ _ _ _ h1|exact cA _ _ _ _ _ _ _ _ _ _ h1|exact cA _ _ _ _ _ _ _ _ _ _ _ h1|exact cA _ _ _ _ _ _ _ _ _ _ _ _ h1|exact cA (aa h1)|exact cA _ (aa h1)|exact cA _ _ (aa h1)|exact cA _ _ _ (aa h1)|exact cA _ _ _ _ (aa h1)|exact cA _ _ _ _ _ (aa h1)|exact cA _ _ _ _ _ _ (aa h1)|exact cA _ _ _ _ _ _ _ (aa h1)|exact cA _ _ _ _ _ _ _ _ (aa h1)|exact cA _ _ _ _ _ _ _ _ _ (aa h1)|exact cA _ _ _ _ _ _ _ _ _ _ (aa h1)|exact cA _ _ _ _ _ _ _ _ _ _ _ (aa h1)|exact cA _ _ _ _ _ _ _ _ _ _ _ _ (aa h1)
  ·cases h)).add 74 (iU aCE) (cE fun xs σ v σ' d h=>by
  unfold aCE at h;split at h
  ·simp only [an,bn] at h
   obtain ⟨h1,rfl,rfl,rfl⟩:=h
   first|exact cQ h1|exact cQ _ h1|exact cQ _ _ h1|exact cQ _ _ _ h1|exact cQ _ _ _ _ h1|exact cQ _ _ _ _ _ h1|exact cQ _ _ _ _ _ _ h1|exact cQ _ _ _ _ _ _ _ h1|exact cQ _ _ _ _ _ _ _ _ h1|exact cQ _ _ _ _ _ _ _ _ _ h1|exact cQ _ _ _ _ _ _ _ _ _ _ h1|exact cQ _ _ _ _ _ _ _ _ _ _ _ h1|exact cQ _ _ _ _ _ _ _ _ _ _ _ _ h1|exact cQ (aa h1)|exact cQ _ (aa h1)|exact cQ _ _ (aa h1)|exact cQ _ _ _ (aa h1)|exact cQ _ _ _ _ (aa h1)|exact cQ _ _ _ _ _ (aa h1)|exact cQ _ _ _ _ _ _ (aa h1)|exact cQ _ _ _ _ _ _ _ (aa h1)|exact cQ _ _ _ _ _ _ _ _ (aa h1)|exact cQ _ _ _ _ _ _ _ _ _ (aa h1)|exact cQ _ _ _ _ _ _ _ _ _ _ (aa h1)|exact cQ _ _ _ _ _ _ _ _ _ _ _ (aa h1)|exact cQ _ _ _ _ _ _ _ _ _ _ _ _ (aa h1)
  ·cases h)
noncomputable def z1 :bT Tryz.prog:=r1
theorem aDE(s:ByteArray)(K:KC):run b2 3 85 [.str s] [] K=
 (Br (!nK (aD (bytesOf (dN (aD s)))) 18) (K (SV.tup [SV.int .i64 0,SV.int .i64 24]) [] []) (Br (mG (aD s)) (K (SV.tup [SV.int .i64 (IntKind.i64.wrap (0 - qL (aD (bytesOf (dN (aD s)))) 18)),SV.int .i64 0]) [] []) (K (SV.tup [SV.int .i64 (qL (aD (bytesOf (dN (aD s)))) 18),SV.int .i64 0]) [] []))):=by kernel_rfl
theorem jN(s:ByteArray):aE Tryz.prog 85 [.str s] [] (.tup [.int .i64 (g9 (aD s)),.int .i64 (kL (aD s))]) [] []:=by
 refine aS b2 3 fun _ _ K hK=> ?_
 have hmb:=nP (dJ s)
 rw [aDE,cX hmb]
 unfold g9 kL at hK
 refine Br.of (fun c=> ?_) fun c=> ?_
 ·rw [dg] at c;rw [c] at hK;exact hK
 ·rw [dr] at c
  rw [c] at hK
  obtain ⟨_,h0,h1⟩:=DO hmb (by decide) c
  have:=O2 (show (dN (aD s)).length<=18 by have:=vY c;omega)
  refine Br.of (fun e=> ?_) fun e=> ?_
  ·rw [e] at hK
   rw [show IntKind.i64.wrap (0 - qL (dN (aD s)) 18)= -qL (dN (aD s)) 18 by rw [fK];omega]
   exact hK
  ·rw [e] at hK;exact hK
theorem lB(s:ByteArray):aE Tryz.prog 129 [.str s] [] (.tup [.int .i64 (u9 (aD s)),.int .i64 (wB (aD s))]) [] []:=by
 refine aS b2 3 fun _ _ K hK=> ?_
 rw [U5]
 exact aDT hK
def PO :List SV->List (Option SB)->Out
 | [.str s],[]=>some (.tup [.int .i64 (u9 (aD s)),.int .i64 (wB (aD s))],[],[])
 |_,_=>none
def IT :List SV->List (Option SB)->Out
 | [.str s],[]=>some (.tup [.int .i64 (g9 (aD s)),.int .i64 (kL (aD s))],[],[])
 |_,_=>none
noncomputable def y4 :bT Tryz.prog:=((y3).add 129 (one PO) (aT fun xs σ v σ' d h=>by
  unfold PO at h;split at h<;>cases h;first|exact lB|exact lB _|exact lB _ _|exact lB _ _ _|exact lB _ _ _ _|exact lB _ _ _ _ _|exact lB _ _ _ _ _ _|exact lB _ _ _ _ _ _ _|exact lB _ _ _ _ _ _ _ _|exact lB _ _ _ _ _ _ _ _ _|exact lB _ _ _ _ _ _ _ _ _ _|exact lB _ _ _ _ _ _ _ _ _ _ _)).add 85 (one IT) (aT fun xs σ v σ' d h=>by
  unfold IT at h;split at h<;>cases h;first|exact jN|exact jN _|exact jN _ _|exact jN _ _ _|exact jN _ _ _ _|exact jN _ _ _ _ _|exact jN _ _ _ _ _ _|exact jN _ _ _ _ _ _ _|exact jN _ _ _ _ _ _ _ _|exact jN _ _ _ _ _ _ _ _ _|exact jN _ _ _ _ _ _ _ _ _ _|exact jN _ _ _ _ _ _ _ _ _ _ _)
abbrev bkT :TypeId:=130
theorem aK9(n:Nat)(g:Nat->List SV)(K:KC):run y4 2 130 [.ro n 1 g] [] K=
 (Br (decide (0<n)) ((∀(i:Nat),i<n->(g i).length=1/\(g i).all bE=true)/\(Br (true&&(decide (n*16<=1099511627776)&&decide (n<9223372036854775808))) (Br (decide (0<n)) (K (SV.own 0 0 1 n) [some (SB.row 9 1 n g)] []) (K (SV.arr 0 0 0 0) [some (SB.cells 9 [])] [])) (False))) (False)):=by kernel_rfl
theorem aL0(K:KC):run y4 2 130 [.nils] [] K=
 (K SV.nils [] []):=by kernel_rfl
theorem aMf(K:KC):run y4 2 130 [.emp] [] K=
 (K (SV.arr 0 0 0 0) [some (SB.cells 9 [])] []):=by kernel_rfl
theorem aAv(p:List (List Int))(hn:p.length<=1048577):aE Tryz.prog 130 [.ro p.length 1 (aG p)] [] (.ro p.length 1 (aG p)) [] []:=
 tF (fun i _=>rfl) (fun h0=>aS y4 2 fun _ _ K hK=>by
   rw [aK9]
   exact If.mk (ao h0) ⟨fun i _=>⟨rfl,rfl⟩,If.mk (by simp only [af,ak,ch];omega) (Br.of (fun _=>hK) fun c=>absurd h0 (ae c))⟩)
  (aS y4 2 fun _ _ K hK=>by rw [aL0];exact hK) (aS y4 2 fun _ _ K hK=>by rw [aMf];exact hK)
def WG :List SV->List (Option SB)->KC->Prop
 |xs,[],K=> ∃p:List (List Int),(xs=[.ro p.length 1 (aG p)]/\p.length<=1048577)/\K (.ro p.length 1 (aG p)) [] []
 |_,_::_,_=>False
theorem TC(xs:List SV)(σ:List (Option SB)):Sat Tryz.prog 130 xs σ (WG xs σ):=by
 intro K hK
 cases σ with
 |nil=>obtain ⟨p,⟨rfl,hp⟩,hK⟩:=hK;exact ⟨_,_,_,hK,aAv p hp⟩
 |cons a l=>exact hK.elim
noncomputable def y5 :bT Tryz.prog:=(y4).add 130 WG TC
theorem aHD(b:Bk)(all lo hi:Int)(w:ByteArray)(K:KC):run y5 3 81 [.ptr 0 0,.str w,.int .i64 lo,.int .i64 hi] [some (.cells bkT (bkC all b))] K=
 (Br (!b.err==0) (K SV.nils [some (SB.cells 130 [SV.ro b.q.length 2 (qG b.q),SV.int .i64 all,SV.int .i64 b.last,SV.int .i64 b.err,SV.int .i64 b.place])] []) (Br ((↑b.q.length:Int)==0) (Br (b.err==0) (K SV.nils [some (SB.cells 130 [SV.ro b.q.length 2 (qG b.q),SV.int .i64 all,SV.int .i64 b.last,SV.int .i64 20,SV.int .i64 (IntKind.i64.wrap (all+1))])] [0]) (K SV.nils [some (SB.cells 130 [SV.ro b.q.length 2 (qG b.q),SV.int .i64 all,SV.int .i64 b.last,SV.int .i64 b.err,SV.int .i64 b.place])] [])) (Br (true&&decide (0<(↑b.q.length:Int))) (Br (true&&decide (0<(↑(b.q.getD (Int.toNat 0) (0,[])).snd.length:Int))) (Br (!bytesOf ((b.q.getD (Int.toNat 0) (0,[])).snd.getD (Int.toNat 0) [])==w) (Br (b.err==0) (K SV.nils [some (SB.cells 130 [SV.ro b.q.length 2 (qG b.q),SV.int .i64 all,SV.int .i64 b.last,SV.int .i64 21,SV.int .i64 (b.q.getD (Int.toNat 0) (0,[])).fst])] [0]) (K SV.nils [some (SB.cells 130 [SV.ro b.q.length 2 (qG b.q),SV.int .i64 all,SV.int .i64 b.last,SV.int .i64 b.err,SV.int .i64 b.place])] [])) (Br (decide (IntKind.i64.wrap ((↑(b.q.getD (Int.toNat 0) (0,[])).snd.length:Int) - 1)<lo)) (Br (b.err==0) (K SV.nils [some (SB.cells 130 [SV.ro b.q.length 2 (qG b.q),SV.int .i64 all,SV.int .i64 b.last,SV.int .i64 22,SV.int .i64 (b.q.getD (Int.toNat 0) (0,[])).fst])] [0]) (K SV.nils [some (SB.cells 130 [SV.ro b.q.length 2 (qG b.q),SV.int .i64 all,SV.int .i64 b.last,SV.int .i64 b.err,SV.int .i64 b.place])] [])) (Br (decide (IntKind.i64.wrap ((↑(b.q.getD (Int.toNat 0) (0,[])).snd.length:Int) - 1)>hi)) (Br (b.err==0) (K SV.nils [some (SB.cells 130 [SV.ro b.q.length 2 (qG b.q),SV.int .i64 all,SV.int .i64 b.last,SV.int .i64 22,SV.int .i64 (b.q.getD (Int.toNat 0) (0,[])).fst])] [0]) (K SV.nils [some (SB.cells 130 [SV.ro b.q.length 2 (qG b.q),SV.int .i64 all,SV.int .i64 b.last,SV.int .i64 b.err,SV.int .i64 b.place])] [])) (Br (true&&(decide (1<=(↑b.q.length:Int))&&decide ((↑b.q.length:Int)<=(↑b.q.length:Int)))) (Br (true&&(decide (1<=(↑(b.q.getD (Int.toNat 0) (0,[])).snd.length:Int))&&decide ((↑(b.q.getD (Int.toNat 0) (0,[])).snd.length:Int)<=(↑(b.q.getD (Int.toNat 0) (0,[])).snd.length:Int)))) (∃(e391:List (List Int)),([SV.ro ((↑(b.q.getD (Int.toNat 0) (0,[])).snd.length:Int).toNat - 1) 1 fun (i:Nat)=>aG (b.q.getD (Int.toNat 0) (0,[])).snd (i+1)]=[SV.ro e391.length 1 (aG e391)]/\e391.length<=1048577)/\(K (SV.ro e391.length 1 (aG e391)) [some (SB.cells 130 [SV.ro ((↑b.q.length:Int).toNat - 1) 2 fun (i:Nat)=>qG b.q (i+1),SV.int .i64 all,SV.int .i64 (b.q.getD (Int.toNat 0) (0,[])).fst,SV.int .i64 b.err,SV.int .i64 b.place])] [0])) (False)) (False))))) (False)) (False)))):=by kernel_rfl
theorem aGk(b:Bk)(all:Int)(w:ByteArray)(K:KC):run y5 3 80 [.ptr 0 0,.str w] [some (.cells bkT (bkC all b))] K=
 (Br (b.err==0) (Br (decide ((↑b.q.length:Int)>0)) (Br (true&&decide (0<(↑b.q.length:Int))) (Br (true&&decide (0<(↑(b.q.getD (Int.toNat 0) (0,[])).snd.length:Int))) (K (SV.bool (bytesOf ((b.q.getD (Int.toNat 0) (0,[])).snd.getD (Int.toNat 0) [])==w)) [some (SB.cells 130 [SV.ro b.q.length 2 (qG b.q),SV.int .i64 all,SV.int .i64 b.last,SV.int .i64 b.err,SV.int .i64 b.place])] []) (False)) (False)) (K (SV.bool false) [some (SB.cells 130 [SV.ro b.q.length 2 (qG b.q),SV.int .i64 all,SV.int .i64 b.last,SV.int .i64 b.err,SV.int .i64 b.place])] [])) (K (SV.bool false) [some (SB.cells 130 [SV.ro b.q.length 2 (qG b.q),SV.int .i64 all,SV.int .i64 b.last,SV.int .i64 b.err,SV.int .i64 b.place])] [])):=by kernel_rfl
theorem aLq(b:Bk)(all:Int)(s:ByteArray)(K:KC):run y5 3 76 [.ptr 0 0,.str s] [some (.cells bkT (bkC all b))] K=
 (Br (!b.err==0) (K (SV.int .i64 0) [some (SB.cells 130 [SV.ro b.q.length 2 (qG b.q),SV.int .i64 all,SV.int .i64 b.last,SV.int .i64 b.err,SV.int .i64 b.place])] []) (Br (b.err==0) (Br (wB (aD s) !=0) (K (SV.int .i64 (u9 (aD s))) [some (SB.cells 130 [SV.ro b.q.length 2 (qG b.q),SV.int .i64 all,SV.int .i64 b.last,SV.int .i64 (wB (aD s)),SV.int .i64 b.last])] [0]) (K (SV.int .i64 (u9 (aD s))) [some (SB.cells 130 [SV.ro b.q.length 2 (qG b.q),SV.int .i64 all,SV.int .i64 b.last,SV.int .i64 b.err,SV.int .i64 b.place])] [])) (K (SV.int .i64 (u9 (aD s))) [some (SB.cells 130 [SV.ro b.q.length 2 (qG b.q),SV.int .i64 all,SV.int .i64 b.last,SV.int .i64 b.err,SV.int .i64 b.place])] []))):=by kernel_rfl
theorem aIJ(b:Bk)(all lo hi:Int)(s:ByteArray)(K:KC):run y5 3 41 [.ptr 0 0,.str s,.int .i64 lo,.int .i64 hi] [some (.cells bkT (bkC all b))] K=
 (Br (!b.err==0) (K (SV.int .i64 0) [some (SB.cells 130 [SV.ro b.q.length 2 (qG b.q),SV.int .i64 all,SV.int .i64 b.last,SV.int .i64 b.err,SV.int .i64 b.place])] []) (Br (kL (aD s)==0) (Br (decide (g9 (aD s)<lo)) (Br (b.err==0) (K (SV.int .i64 0) [some (SB.cells 130 [SV.ro b.q.length 2 (qG b.q),SV.int .i64 all,SV.int .i64 b.last,SV.int .i64 40,SV.int .i64 b.last])] [0]) (K (SV.int .i64 0) [some (SB.cells 130 [SV.ro b.q.length 2 (qG b.q),SV.int .i64 all,SV.int .i64 b.last,SV.int .i64 b.err,SV.int .i64 b.place])] [])) (Br (decide (g9 (aD s)>hi)) (Br (b.err==0) (K (SV.int .i64 0) [some (SB.cells 130 [SV.ro b.q.length 2 (qG b.q),SV.int .i64 all,SV.int .i64 b.last,SV.int .i64 40,SV.int .i64 b.last])] [0]) (K (SV.int .i64 0) [some (SB.cells 130 [SV.ro b.q.length 2 (qG b.q),SV.int .i64 all,SV.int .i64 b.last,SV.int .i64 b.err,SV.int .i64 b.place])] [])) (Br (b.err==0) (Br (kL (aD s) !=0) (K (SV.int .i64 (g9 (aD s))) [some (SB.cells 130 [SV.ro b.q.length 2 (qG b.q),SV.int .i64 all,SV.int .i64 b.last,SV.int .i64 (kL (aD s)),SV.int .i64 b.last])] [0]) (K (SV.int .i64 (g9 (aD s))) [some (SB.cells 130 [SV.ro b.q.length 2 (qG b.q),SV.int .i64 all,SV.int .i64 b.last,SV.int .i64 b.err,SV.int .i64 b.place])] [])) (K (SV.int .i64 (g9 (aD s))) [some (SB.cells 130 [SV.ro b.q.length 2 (qG b.q),SV.int .i64 all,SV.int .i64 b.last,SV.int .i64 b.err,SV.int .i64 b.place])] [])))) (Br (b.err==0) (Br (kL (aD s) !=0) (K (SV.int .i64 (g9 (aD s))) [some (SB.cells 130 [SV.ro b.q.length 2 (qG b.q),SV.int .i64 all,SV.int .i64 b.last,SV.int .i64 (kL (aD s)),SV.int .i64 b.last])] [0]) (K (SV.int .i64 (g9 (aD s))) [some (SB.cells 130 [SV.ro b.q.length 2 (qG b.q),SV.int .i64 all,SV.int .i64 b.last,SV.int .i64 b.err,SV.int .i64 b.place])] [])) (K (SV.int .i64 (g9 (aD s))) [some (SB.cells 130 [SV.ro b.q.length 2 (qG b.q),SV.int .i64 all,SV.int .i64 b.last,SV.int .i64 b.err,SV.int .i64 b.place])] [])))):=by kernel_rfl
theorem aG3(b:Bk)(all:Int)(s a:ByteArray)(t:TypeId)(K:KC):kC 3 y5 3 83 [.ptr 0 0,.str s,.arr 1 0 1 1] [some (.cells bkT (bkC all b)),some (.cells t [.str a])] K=
 (Br (!b.err==0) (K (SV.int .i64 0) [some (SB.cells 130 [SV.ro b.q.length 2 (qG b.q),SV.int .i64 all,SV.int .i64 b.last,SV.int .i64 b.err,SV.int .i64 b.place]),some (SB.cells t [SV.str a])] []) (Br (s==a) (K (SV.int .i64 0) [some (SB.cells 130 [SV.ro b.q.length 2 (qG b.q),SV.int .i64 all,SV.int .i64 b.last,SV.int .i64 b.err,SV.int .i64 b.place]),some (SB.cells t [SV.str a])] []) (Br (b.err==0) (K (SV.int .i64 0) [some (SB.cells 130 [SV.ro b.q.length 2 (qG b.q),SV.int .i64 all,SV.int .i64 b.last,SV.int .i64 24,SV.int .i64 b.last]),some (SB.cells t [SV.str a])] [0]) (K (SV.int .i64 0) [some (SB.cells 130 [SV.ro b.q.length 2 (qG b.q),SV.int .i64 all,SV.int .i64 b.last,SV.int .i64 b.err,SV.int .i64 b.place]),some (SB.cells t [SV.str a])] [])))):=by kernel_rfl
theorem aGG(b:Bk)(all:Int)(s a c:ByteArray)(t:TypeId)(K:KC):kC 4 y5 3 83 [.ptr 0 0,.str s,.arr 1 0 2 2] [some (.cells bkT (bkC all b)),some (.cells t [.str a,.str c])] K=
 (Br (!b.err==0) (K (SV.int .i64 0) [some (SB.cells 130 [SV.ro b.q.length 2 (qG b.q),SV.int .i64 all,SV.int .i64 b.last,SV.int .i64 b.err,SV.int .i64 b.place]),some (SB.cells t [SV.str a,SV.str c])] []) (Br (s==a) (K (SV.int .i64 0) [some (SB.cells 130 [SV.ro b.q.length 2 (qG b.q),SV.int .i64 all,SV.int .i64 b.last,SV.int .i64 b.err,SV.int .i64 b.place]),some (SB.cells t [SV.str a,SV.str c])] []) (Br (s==c) (K (SV.int .i64 1) [some (SB.cells 130 [SV.ro b.q.length 2 (qG b.q),SV.int .i64 all,SV.int .i64 b.last,SV.int .i64 b.err,SV.int .i64 b.place]),some (SB.cells t [SV.str a,SV.str c])] []) (Br (b.err==0) (K (SV.int .i64 0) [some (SB.cells 130 [SV.ro b.q.length 2 (qG b.q),SV.int .i64 all,SV.int .i64 b.last,SV.int .i64 24,SV.int .i64 b.last]),some (SB.cells t [SV.str a,SV.str c])] [0]) (K (SV.int .i64 0) [some (SB.cells 130 [SV.ro b.q.length 2 (qG b.q),SV.int .i64 all,SV.int .i64 b.last,SV.int .i64 b.err,SV.int .i64 b.place]),some (SB.cells t [SV.str a,SV.str c])] []))))):=by kernel_rfl
theorem aKl(b:Bk)(all:Int)(K:KC):run y5 3 82 [.ptr 0 0] [some (.cells bkT (bkC all b))] K=
 (Br (b.err==0) (Br (b.err==0) (K (SV.tup []) [some (SB.cells 130 [SV.ro b.q.length 2 (qG b.q),SV.int .i64 all,SV.int .i64 b.last,SV.int .i64 22,SV.int .i64 b.last])] [0]) (K (SV.tup []) [some (SB.cells 130 [SV.ro b.q.length 2 (qG b.q),SV.int .i64 all,SV.int .i64 b.last,SV.int .i64 b.err,SV.int .i64 b.place])] [])) (K (SV.tup []) [some (SB.cells 130 [SV.ro b.q.length 2 (qG b.q),SV.int .i64 all,SV.int .i64 b.last,SV.int .i64 b.err,SV.int .i64 b.place])] [])):=by kernel_rfl
theorem aK5(b:Bk)(all:Int)(K:KC):run y5 3 42 [.ptr 0 0] [some (.cells bkT (bkC all b))] K=
 (Br (decide ((↑b.q.length:Int)>0)) (Br (true&&decide (0<(↑b.q.length:Int))) (Br (b.err==0) (K (SV.tup [SV.int .i64 23,SV.int .i64 (b.q.getD (Int.toNat 0) (0,[])).fst]) [some (SB.cells 130 [SV.ro b.q.length 2 (qG b.q),SV.int .i64 all,SV.int .i64 b.last,SV.int .i64 23,SV.int .i64 (b.q.getD (Int.toNat 0) (0,[])).fst])] [0]) (K (SV.tup [SV.int .i64 b.err,SV.int .i64 b.place]) [some (SB.cells 130 [SV.ro b.q.length 2 (qG b.q),SV.int .i64 all,SV.int .i64 b.last,SV.int .i64 b.err,SV.int .i64 b.place])] [])) (False)) (K (SV.tup [SV.int .i64 b.err,SV.int .i64 b.place]) [some (SB.cells 130 [SV.ro b.q.length 2 (qG b.q),SV.int .i64 all,SV.int .i64 b.last,SV.int .i64 b.err,SV.int .i64 b.place])] [])):=by kernel_rfl
theorem t6 : ∀p:Nat,p∈([]:List Nat)->p∈[0]:=fun _ h=>nomatch h
theorem GU : ∀p:Nat,p∈[0]->p∈[0]:=fun _ h=>h
theorem aEL {b:Bk} {all lo hi:Int} {w:ByteArray} {K:KC} (hb:aR b) (ha:0<=all/\all<=1048577)
  (h1:iT b w lo hi=true-> ∀d',(∀p,p∈d'->p∈[0])->K .nils [some (.cells bkT (bkC all (i7 all b w lo hi)))] d')
  (h2:iT b w lo hi=false-> ∀d',(∀p,p∈d'->p∈[0])->K (.ro (kE b).length 1 (aG (kE b))) [some (.cells bkT (bkC all (i7 all b w lo hi)))] d'):
  run y5 3 81 [.ptr 0 0,.str w,.int .i64 lo,.int .i64 hi] [some (.cells bkT (bkC all b))] K:=by
 rw [aHD]
 refine Br.of (fun c=> ?_) fun c=> ?_
 ·obtain ⟨t1,t2⟩:=aIZ (w:=w) (lo:=lo) (hi:=hi) (all:=all) (b:=b) (by simpa using c)
  have:=h1 t1 [] t6
  rw [t2] at this;exact this
 have he:(b.err==0)=true:=by simpa using c
 rw [NC]
 have bad: ∀e a:Int,pA b w lo hi=e->e≠0->(bif b.q.isEmpty then all+1 else (eC b.q).1)=a-> ∀X:Prop,Br (b.err==0) (K SV.nils [some (SB.cells bkT [SV.ro b.q.length 2 (qG b.q),SV.int .i64 all,SV.int .i64 b.last,SV.int .i64 e,SV.int .i64 a])] [0]) X:=by
  intro e a hT h0 hpl X
  obtain ⟨t1,t2⟩:=aI5 (all:=all) he hT h0
  have:=h1 t1 [0] GU
  rw [t2,hpl] at this
  rw [he]
  exact this
 refine Br.of (fun hq=> ?_) fun hq=> ?_
 ·rw [show IntKind.i64.wrap (all+1)=all+1 by rw [fK];omega]
  exact bad 20 (all+1) (by unfold pA;rw [hq];rfl) (by decide) (by rw [hq];rfl) _
 have hne:b.q≠[]:=fun e=>by rw [e] at hq;cases hq
 obtain ⟨l1,l2⟩:=hb.head hne
 have hql:0<b.q.length:=List.length_pos_iff.2 hne
 have hqall:=hb.all
 refine Br.of (fun _=> ?_) fun f=>absurd f (by simp only [ch,aw];omega)
 show Br (true&&decide (0<(((eC b.q).2.length:Nat):Int))) _ _
 refine Br.of (fun _=> ?_) fun f=>absurd f (by simp only [ch,aw];omega)
 have hpl:(bif b.q.isEmpty then all+1 else (eC b.q).1)=(eC b.q).1:=by rw [hq];rfl
 show Br (!bytesOf ((eC b.q).2.getD 0 [])==w) _ _
 have hE:pA b w lo hi=bif !(bytesOf ((eC b.q).2.getD 0 [])==w) then 21 else bif decide ((((eC b.q).2.length:Int) - 1)<lo)||decide ((((eC b.q).2.length:Int) - 1)>hi) then 22 else 0:=by unfold pA;rw [hq];rfl
 refine Br.of (fun c1=>bad 21 _ (by rw [hE,c1];rfl) (by decide) hpl _) fun c1=> ?_
 have hw:IntKind.i64.wrap (((eC b.q).2.length:Int) - 1)=((eC b.q).2.length:Int) - 1:=by rw [fK];omega
 rw [c1] at hE
 show Br (decide (IntKind.i64.wrap (((eC b.q).2.length:Int) - 1)<lo)) _ (Br (decide (IntKind.i64.wrap (((eC b.q).2.length:Int) - 1)>hi)) _ _)
 rw [hw]
 refine Br.of (fun c2=>bad 22 _ (by rw [hE,c2];rfl) (by decide) hpl _) fun c2=>Br.of (fun c3=>bad 22 _ (by rw [hE,c3,co];rfl) (by decide) hpl _) fun c3=> ?_
 refine Br.of (fun _=> ?_) fun f=>absurd f (by simp only [ch,bf,aw];omega)
 show Br (true&&(decide (1<=(((eC b.q).2.length:Nat):Int))&&decide ((((eC b.q).2.length:Nat):Int)<=(((eC b.q).2.length:Nat):Int)))) _ _
 refine Br.of (fun _=> ?_) fun f=>absurd f (by simp only [ch,bf,aw];omega)
 obtain ⟨t1,t2⟩:=aLL (all:=all) (lo:=lo) (hi:=hi) (w:=w) he (by rw [hE,c2,c3];rfl)
 have:=h2 t1 [0] GU
 rw [t2] at this
 refine ⟨(eC b.q).2.tail,⟨?_,by simp only [List.length_tail];omega⟩, ?_⟩
 ·show [SV.ro (((eC b.q).2.length:Int).toNat - 1) 1 fun i=>aG (eC b.q).2 (i+1)]=_
  rw [am,RH,List.length_tail]
 ·rw [am,aHN]
  unfold bkC at this
  simp only [List.length_tail] at this
  simp only [List.length_tail]
  unfold kE at this
  simp only [List.length_tail] at this
  exact this
theorem aDF{b:Bk}{all:Int}{w:ByteArray}{K:KC}(hb:aR b)(hK:K (.bool (iE b w)) [some (.cells bkT (bkC all b))] []):
  run y5 3 80 [.ptr 0 0,.str w] [some (.cells bkT (bkC all b))] K:=by
 rw [aGk]
 unfold iE at hK
 refine Br.of (fun c=> ?_) fun c=>by rw [c] at hK;exact hK
 rw [c] at hK
 refine Br.of (fun hq=> ?_) fun hq=> ?_
 ·have hql:0<b.q.length:=by have:=aa hq;omega
  have hne:b.q≠[]:=List.length_pos_iff.1 hql
  obtain ⟨l1,l2⟩:=hb.head hne
  rw [show b.q.isEmpty=false by cases hh:b.q with|nil=>exact absurd hh hne|cons=>rfl] at hK
  refine Br.of (fun _=> ?_) fun f=>absurd f (by simp only [ch,aw];omega)
  show Br (true&&decide (0<(((eC b.q).2.length:Nat):Int))) _ _
  exact Br.of (fun _=>hK) fun f=>absurd f (by simp only [ch,aw];omega)
 ·have:b.q.isEmpty=true:=by
   have:=ae hq
   rw [List.isEmpty_iff_length_eq_zero];omega
  rw [this] at hK;exact hK
theorem aGX{b:Bk}{all:Int}{s:ByteArray}{K:KC}(hK: ∀d',(∀p,p∈d'->p∈[0])->K (.int .i64 (yY b (aD s))) [some (.cells bkT (bkC all (nA b (aD s))))] d'):
  run y5 3 76 [.ptr 0 0,.str s] [some (.cells bkT (bkC all b))] K:=by
 rw [aLq]
 unfold yY nA at hK
 cases c:b.err==0 with
 |false=>rw [c,zU c] at hK;exact hK [] t6
 |true=>
  rw [c] at hK
  refine Br.of (fun e=>by cases e) fun _=>Br.of (fun _=>Br.of (fun d=> ?_) fun d=> ?_) fun e=>by cases e
  ·rw [pW c (by simpa using d)] at hK;exact hK [0] GU
  ·have:wB (aD s)=0:=by simpa using d
   rw [this,LK] at hK;exact hK [] t6
theorem aF4{b:Bk}{all lo hi:Int}{s:ByteArray}{K:KC}(hK: ∀d',(∀p,p∈d'->p∈[0])->K (.int .i64 (mX b (aD s) lo hi)) [some (.cells bkT (bkC all (kR b (aD s) lo hi)))] d'):
  run y5 3 41 [.ptr 0 0,.str s,.int .i64 lo,.int .i64 hi] [some (.cells bkT (bkC all b))] K:=by
 rw [aIJ]
 unfold mX kR at hK
 cases c:b.err==0 with
 |false=>rw [c,zU c] at hK;exact hK [] t6
 |true=>
  rw [c] at hK
  have h24:kL (aD s)≠0->kL (aD s)=24/\g9 (aD s)=0:=fun h=>by
   unfold kL g9 at*
   cases hn:nK (dN (aD s)) 18 with
   |true=>rw [hn] at h;exact absurd rfl h
   |false=>exact ⟨rfl,rfl⟩
  refine Br.of (fun e=>by cases e) fun _=> ?_
  cases w:kL (aD s)==0 with
  |true=>
   have hw0:kL (aD s)=0:=by simpa using w
   refine Br.of (fun _=>Br.of (fun d=>Br.of (fun _=> ?_) fun e=>by cases e) fun d=>Br.of (fun d2=>Br.of (fun _=> ?_) fun e=>by cases e) fun d2=>Br.of (fun _=>Br.of (fun d3=> ?_) fun d3=> ?_) fun e=>by cases e) fun e=>by cases e
   ·have hE:A0 (aD s) lo hi=40:=by unfold A0;rw [w,d];rfl
    rw [hE,pW c (by decide)] at hK;exact hK [0] GU
   ·have hE:A0 (aD s) lo hi=40:=by unfold A0;rw [w,d2,co];rfl
    rw [hE,pW c (by decide)] at hK;exact hK [0] GU
   ·rw [hw0] at d3;cases d3
   ·have hE:A0 (aD s) lo hi=0:=by unfold A0;rw [w,d,d2];rfl
    rw [hE,LK] at hK;exact hK [] t6
  |false=>
   have hw0:=h24 (by simpa using w)
   have hE:A0 (aD s) lo hi=24:=by unfold A0;rw [w];rfl
   rw [hE,pW c (by decide)] at hK
   refine Br.of (fun e=>by cases e) fun _=>Br.of (fun _=>Br.of (fun _=> ?_) fun d=> ?_) fun e=>by cases e
   ·rw [hw0.1,hw0.2];exact hK [0] GU
   ·rw [hw0.1] at d;cases d
theorem aF2{b:Bk}{all:Int}{K:KC}(hK: ∀d',(∀p,p∈d'->p∈[0])->K (.tup []) [some (.cells bkT (bkC all (yO b)))] d'):
  run y5 3 82 [.ptr 0 0] [some (.cells bkT (bkC all b))] K:=by
 rw [aKl]
 unfold yO at hK
 cases c:b.err==0 with
 |false=>rw [zU c] at hK;exact hK [] t6
 |true=>rw [pW c (by decide)] at hK;exact hK [0] GU
theorem aFS{b:Bk}{all:Int}{K:KC}(hK: ∀d',(∀p,p∈d'->p∈[0])->K (.tup [.int .i64 (LS b),.int .i64 (OH b)]) [some (.cells bkT (bkC all (aFq b)))] d'):
  run y5 3 42 [.ptr 0 0] [some (.cells bkT (bkC all b))] K:=by
 rw [aK5]
 unfold LS OH aFq at hK
 refine Br.of (fun hq=> ?_) fun hq=> ?_
 ·have hql:0<b.q.length:=by have:=aa hq;omega
  have hne:b.q.isEmpty=false:=by cases hh:b.q with|nil=>rw [hh] at hql;simp at hql|cons=>rfl
  rw [hne] at hK
  refine Br.of (fun _=> ?_) fun f=>absurd f (by simp only [ch,aw];omega)
  cases c:b.err==0 with
  |false=>
   simp only [ap] at hK
   rw [zU c,show (b.err !=0)=true by rw [bne,c];rfl] at hK
   exact hK [] t6
  |true=>
   simp only [ap] at hK
   rw [pW c (by decide),show (b.err !=0)=false by rw [bne,c];rfl] at hK
   exact hK [0] GU
 ·have hne:b.q.isEmpty=true:=by
   have:=ae hq
   rw [List.isEmpty_iff_length_eq_zero];omega
  rw [hne] at hK
  have h0:(bif b.err !=0 then b.err else bif true then 0 else 23)=b.err:=by
   cases c:b.err !=0
   ·have:b.err=0:=by simpa using c
    rw [this];rfl
   ·rfl
  have h1:(bif b.err !=0 then b.place else bif true then b.place else (eC b.q).1)=b.place:=by cases b.err !=0<;>rfl
  rw [h0,h1] at hK
  exact hK [] t6
end Go.Proofs.YtghnfjfkjhbgdaaGreatDoor
namespace Go.Se
variable {P:Program}
theorem EZ {k:FuncId} {xs:List SV} {e e2:TypeId} {st n:Nat} {g g':Nat->List SV} {cs:List SV} (hcs:ids.idsL cs=[]) (hg: ∀i,i<n->g i=g' i)
  (h:aE P k xs [] (.ptr 0 0) [some (.cells e (.own 1 0 st n::cs)),some (.row e2 st n g)] []):aE P k xs [] (.ptr 0 0) [some (.cells e (.ro n st g'::cs))] []:=by
 intro ρ T w vals h1 h2 h3 h4
 refine (h ρ T w vals h1 h2 h3 h4).mono fun x w' ⟨ρ',T',hd⟩=> ?_
 obtain ⟨b0,r1,rfl⟩:=hd.val
 obtain ⟨b0',r2,r3,vs0,r4,v1,rest,r5,r6,r7⟩:=hd.store 0 _ rfl
 rw [r1] at r2;cases r2
 obtain ⟨b1,c,q1,rfl,q2,q3,_⟩:=r6
 obtain ⟨b1',q4,q5,vs1,q6,q7,q8⟩:=hd.store 1 _ rfl
 rw [q1] at q4;cases q4
 have hne:b0≠b1:=fun e=>by
  subst e
  have:=hd.inj 0 1 b0 (av _) (cn _) r1 q1
  cases this
 have hρ: ∀p,ρ p=none:=fun p=>by
  cases hp:ρ p with
  |none=>rfl
  |some b=>exact absurd (h4 p b hp).1 (dn _)
 have hnew: ∀p b,ρ' p=some b->w.heap.size<=b:=fun p b hp=>by
  rcases hd.fresh p b (cn _) hp with h|⟨q,hq,_⟩
  ·exact h
  ·cases hq
 refine ⟨fun p=>if p=0 then some b0 else none,fun c=>T' c/\c≠b1,{
  names:=fun p b hp=>by rw [hρ] at hp;cases hp
  only:=fun p b hp=>by
   by_cases h0:p=0
   ·subst h0;exact Nat.zero_lt_one
   ·simp only [if_neg h0] at hp;cases hp
  len:=cn _
  val:=⟨b0,rfl,rfl⟩
  store:=fun p sb hp=> ?_
  fresh:=fun p b _ hp=>by
   by_cases h0:p=0
   ·subst h0
    simp only [if_true,an] at hp
    subst hp
    exact .inl (hnew 0 _ r1)
   ·simp only [if_neg h0] at hp;cases hp
  inj:=fun p q b _ _ hp hq=>by
   by_cases h0:p=0<;>by_cases h1:q=0
   ·rw [h0,h1]
   ·simp only [if_neg h1] at hq;cases hq
   ·simp only [if_neg h0] at hp;cases hp
   ·simp only [if_neg h0] at hp;cases hp
  dirty:=fun p hp=>by cases hp
  grow:=hd.grow
  tback:=fun c hc ht=>hd.tback c hc ht.1
  below:=fun p b hp=>by
   by_cases h0:p=0
   ·subst h0
    simp only [if_true,an] at hp
    subst hp
    exact hd.below 0 _ r1
   ·simp only [if_neg h0] at hp;cases hp
  tkeep:=fun c hc ht=>by
   rcases hd.tkeep c hc ht with h|⟨q,hq,_⟩
   ·have:=hnew 1 b1 q1
    exact .inl ⟨h,by omega⟩
   ·cases hq}⟩
 match p,hp with
 |p+1,hp=>simp at hp
 |0,hp=>
  cases hp
  refine ⟨b0,rfl,⟨r3,hne⟩,vs0,r4,_,rest,r5, ?_, ?_⟩
  ·refine ⟨some ⟨b1,0*st,none⟩,c,rfl,⟨q2,by omega,fun he=>by cases he⟩,fun _=>⟨b1,0,by rw [ce],(bk.1 q6).1,fun ht=>ht.2 rfl,fun i hi=> ?_⟩⟩
   have hr:=bB (T':=fun c=>T' c/\c≠b1) (fun _ _ h=>h) (fun _ _ h=>h.1) (bG.refl T' w') _ _ (q8 i hi)
   rw [bi,<- hg i hi]
   refine eV hr fun j u hj=> ?_
   rw [fF q6]
   rw [br] at hj
   split at hj
   ·rw [bu] at hj
    simpa using hj
   ·cases hj
  ·exact bB (fun _ _ h=>h) (fun _ _ h=>h.1) (bG.refl T' w') _ _ (gO _ _ hcs r7)
theorem EQ {k:FuncId} {xs:List SV} {e:TypeId} {st:Nat} {g:Nat->List SV} {cs:List SV}
  (h:aE P k xs [] (.ptr 0 0) [some (.cells e (.nils::cs))] []):aE P k xs [] (.ptr 0 0) [some (.cells e (.ro 0 st g::cs))] []:=by
 intro ρ T w vals h1 h2 h3 h4
 refine (h ρ T w vals h1 h2 h3 h4).mono fun x w' ⟨ρ',T',hd⟩=>⟨ρ',T',{
  names:=hd.names
  only:=hd.only
  len:=hd.len
  val:=hd.val
  store:=fun p sb hp=> ?_
  fresh:=fun p b hp hb=>by
   rcases hd.fresh p b hp hb with h|⟨q,hq,_⟩
   ·exact .inl h
   ·cases hq
  inj:=hd.inj
  dirty:=hd.dirty
  grow:=hd.grow
  tback:=hd.tback
  below:=hd.below
  tkeep:=fun c hc ht=>by
   rcases hd.tkeep c hc ht with h|⟨q,hq,_⟩
   ·exact .inl h
   ·cases hq}⟩
 match p,hp with
 |p+1,hp=>simp at hp
 |0,hp=>
  cases hp
  obtain ⟨b0,r2,r3,vs0,r4,v1,rest,r5,r6,r7⟩:=hd.store 0 _ rfl
  exact ⟨b0,r2,r3,vs0,r4,v1,rest,r5,iP r6,r7⟩
end Go.Se
namespace Go.Proofs.YtghnfjfkjhbgdaaGreatDoor
open Go.Se
set_option maxRecDepth 100000
noncomputable def y6 :bT Tryz.prog:=y5
noncomputable abbrev EM(R:List (Nat×eI×List ((Nat×List Nat)×Nat)))(u:Nat->Nat)(B:bT Tryz.prog)(n:Nat)(k:FuncId)(xs:List SV)(σ:List (Option SB))(K:KC):Prop:=
 calls (tab.env B u (fun _=>false)) (cM R) B.dom n k xs σ K
theorem C3 (R:List (Nat×eI×List ((Nat×List Nat)×Nat))) (u:Nat->Nat) (B:bT Tryz.prog) (n:Nat) {k:FuncId} {xs:List SV} {σ:List (Option SB)} {v:SV} {σ':List (Option SB)} {d:List Nat}
  (hl: ∀p,p∈d->p<σ.length)
  (h:okL xs->okS σ-> ∀K:KC,(∀d',(∀p,p∈d'->p∈d)->K v σ' d')->EM R u B n k xs σ K):aE Tryz.prog k xs σ v σ' d:=
 BA (R:=R) tab B hl fun h1 h2=>h h1 h2 _ fun _ hd=>⟨rfl,rfl,hd⟩
noncomputable abbrev aFD(R:List (Nat×eI×List ((Nat×List Nat)×Nat)))(u:Nat->Nat)(B:bT Tryz.prog)(n:Nat):Env:=
 {tab.env B u (fun _=>false) with callee:=calls (tab.env B u (fun _=>false)) (cM R) B.dom n,round:=fun xs σ K=>calls.roundsN (tab.env B u (fun _=>false)) (cM R) B.dom n xs σ K}
def opR :List (Nat×eI×List ((Nat×List Nat)×Nat)):=[(0,⟨[3,10,11,12],[0,1],[0,1,2,3,4,5,6,7,8],2,[]⟩,[((3,[0]),1)])]
def opS(L:List (List Int))(o:SV)(b:Option SB)(all i:Int):St:=⟨[(3,.ptr 0 0),(10,.ro L.length 1 (aG L)),(11,.int .i64 L.length),(12,.int .i64 i)],[(0,some (.cells bkT [o,.int .i64 all,.int .i64 0,.int .i64 0,.int .i64 0])),(1,b)],2,[0,1,2,3,4,5,6,7,8],44⟩
noncomputable abbrev opE :Env:=aFD opR (fun _=>0) y5 2
noncomputable abbrev opF :Func:=Tryz.f31
abbrev opP :List Nat:=[1,1,0,1,0]
theorem aFt(s:ByteArray)(K:KC):EM opR (fun _=>0) y5 3 31 [.str s] [] K=
 (Br (decide (s.size<=1048576)) (∃q_,aV opE (cM opR 0) opF opP 0 0 K q_ {tmps:=[(3,SV.ptr 0 0),(10,SV.ro (fR (aD s)).length 1 (aG (fR (aD s)))),(11,SV.int .i64 (↑(fR (aD s)).length:Int)),(12,SV.int .i64 0)],store:=[(0,some (SB.cells 130 [SV.nils,SV.int .i64 0,SV.int .i64 0,SV.int .i64 0,SV.int .i64 0])),(1,none)],nxt:=2,dirty:=[0,1,2,3,4,5,6,7,8],nt:=44}) (False)):=by kernel_rfl
theorem aBi(L:List (List Int))(all:Int)(i:Nat)(K:Ex->St->Prop):aF opE (cM opR 0) opF opP 0 K (opS L .nils none all i)=
 (Br (decide ((↑i:Int)<(↑L.length:Int))) (Br (decide (0<=(↑i:Int))&&decide ((↑i:Int)<(↑L.length:Int))) (Br (decide ((bytesOf (L.getD (↑i:Int).toNat [])).size<=1048576)) (Br (decide ((↑(cH (aD (bytesOf (L.getD (↑i:Int).toNat [])))).length:Int)>0)) (K Ex.normal {tmps:=[(3,SV.ptr 0 0),(10,SV.ro L.length 1 (aG L)),(11,SV.int .i64 (↑L.length:Int)),(12,SV.int .i64 (IntKind.i64.wrap ((↑i:Int)+1)))],store:=[(0,some (SB.cells 130 [SV.own 1 0 2 1,SV.int .i64 (IntKind.i64.wrap (all+1)),SV.int .i64 0,SV.int .i64 0,SV.int .i64 0])),(1,some (SB.row 133 2 1 fun (i_1:Nat)=>cut [SV.int .i64 (IntKind.i64.wrap ((↑i:Int)+1)),SV.ro (cH (aD (bytesOf (L.getD (↑i:Int).toNat [])))).length 1 (aG (cH (aD (bytesOf (L.getD (↑i:Int).toNat [])))))] (i_1*2) 2))],nxt:=2,dirty:=[0,1,2,3,4,5,6,7,8],nt:=44}) (K Ex.normal {tmps:=[(3,SV.ptr 0 0),(10,SV.ro L.length 1 (aG L)),(11,SV.int .i64 (↑L.length:Int)),(12,SV.int .i64 (IntKind.i64.wrap ((↑i:Int)+1)))],store:=[(0,some (SB.cells 130 [SV.nils,SV.int .i64 (IntKind.i64.wrap (all+1)),SV.int .i64 0,SV.int .i64 0,SV.int .i64 0])),(1,none)],nxt:=2,dirty:=[0,1,2,3,4,5,6,7,8],nt:=44})) (False)) (False)) (K (Ex.exit 0) {tmps:=[(3,SV.ptr 0 0),(10,SV.ro L.length 1 (aG L)),(11,SV.int .i64 (↑L.length:Int)),(12,SV.int .i64 (↑i:Int))],store:=[(0,some (SB.cells 130 [SV.nils,SV.int .i64 all,SV.int .i64 0,SV.int .i64 0,SV.int .i64 0])),(1,none)],nxt:=2,dirty:=[0,1,2,3,4,5,6,7,8],nt:=44})):=by kernel_rfl
theorem ZA(L:List (List Int))(m:Nat)(g:Nat->List SV)(all:Int)(i:Nat)(K:Ex->St->Prop):aF opE (cM opR 0) opF opP 0 K (opS L (.own 1 0 2 m) (some (.row 133 2 m g)) all i)=
 (Br (decide ((↑i:Int)<(↑L.length:Int))) (Br (decide (0<=(↑i:Int))&&decide ((↑i:Int)<(↑L.length:Int))) (Br (decide ((bytesOf (L.getD (↑i:Int).toNat [])).size<=1048576)) (Br (decide ((↑(cH (aD (bytesOf (L.getD (↑i:Int).toNat [])))).length:Int)>0)) (Br (decide ((m+1)*32<=1099511627776)&&decide (m+1<9223372036854775808)&&decide (m=m)) (K Ex.normal {tmps:=[(3,SV.ptr 0 0),(10,SV.ro L.length 1 (aG L)),(11,SV.int .i64 (↑L.length:Int)),(12,SV.int .i64 (IntKind.i64.wrap ((↑i:Int)+1)))],store:=[(0,some (SB.cells 130 [SV.own 1 0 2 (m+1),SV.int .i64 (IntKind.i64.wrap (all+1)),SV.int .i64 0,SV.int .i64 0,SV.int .i64 0])),(1,some (SB.row 133 2 (m+1) (bK m [SV.int .i64 (IntKind.i64.wrap ((↑i:Int)+1)),SV.ro (cH (aD (bytesOf (L.getD (↑i:Int).toNat [])))).length 1 (aG (cH (aD (bytesOf (L.getD (↑i:Int).toNat [])))))] g)))],nxt:=2,dirty:=[0,1,2,3,4,5,6,7,8],nt:=44}) (False)) (K Ex.normal {tmps:=[(3,SV.ptr 0 0),(10,SV.ro L.length 1 (aG L)),(11,SV.int .i64 (↑L.length:Int)),(12,SV.int .i64 (IntKind.i64.wrap ((↑i:Int)+1)))],store:=[(0,some (SB.cells 130 [SV.own 1 0 2 m,SV.int .i64 (IntKind.i64.wrap (all+1)),SV.int .i64 0,SV.int .i64 0,SV.int .i64 0])),(1,some (SB.row 133 2 m g))],nxt:=2,dirty:=[0,1,2,3,4,5,6,7,8],nt:=44})) (False)) (False)) (K (Ex.exit 0) {tmps:=[(3,SV.ptr 0 0),(10,SV.ro L.length 1 (aG L)),(11,SV.int .i64 (↑L.length:Int)),(12,SV.int .i64 (↑i:Int))],store:=[(0,some (SB.cells 130 [SV.own 1 0 2 m,SV.int .i64 all,SV.int .i64 0,SV.int .i64 0,SV.int .i64 0])),(1,some (SB.row 133 2 m g))],nxt:=2,dirty:=[0,1,2,3,4,5,6,7,8],nt:=44})):=by kernel_rfl
theorem XQ(L:List (List Int))(all:Int)(i:Nat)(K:KC):aB opE (cM opR 0) opF opP 0 K (.exit 0) (opS L .nils none all i)=
 (K (SV.ptr 0 0) [some (SB.cells 130 [SV.nils,SV.int .i64 all,SV.int .i64 0,SV.int .i64 0,SV.int .i64 0])] []):=by kernel_rfl
theorem aAW(L:List (List Int))(m:Nat)(g:Nat->List SV)(all:Int)(i:Nat)(K:KC):aB opE (cM opR 0) opF opP 0 K (.exit 0) (opS L (.own 1 0 2 m) (some (.row 133 2 m g)) all i)=
 (K (SV.ptr 0 0) [some (SB.cells 130 [SV.own 1 0 2 m,SV.int .i64 all,SV.int .i64 0,SV.int .i64 0,SV.int .i64 0]),some (SB.row 133 2 m g)] []):=by kernel_rfl
abbrev XL :TypeId:=133
def opK(q:List (Int×List (List Int)))(all:Int)(K:KC):Prop:=
 (q=[]->K (.ptr 0 0) [some (.cells bkT [.nils,.int .i64 all,.int .i64 0,.int .i64 0,.int .i64 0])] [])/\
 ∀g,(∀j (h:j<q.length),g j=OJ q[j])->K (.ptr 0 0) [some (.cells bkT [.own 1 0 2 q.length,.int .i64 all,.int .i64 0,.int .i64 0,.int .i64 0]),some (.row XL 2 q.length g)] []
theorem aLt(L:List (List Int))(hL:aBh L)(K:KC)(hK:opK (nbF 0 L) L.length K): ∃q,aV opE (cM opR 0) opF opP 0 0 K q (opS L .nils none 0 0):=by
 have hlen:=hL.len
 refine ⟨L.length+1,iH (fun a:List (Int×List (List Int))×SV×Option SB×Nat=>opS L a.2.1 a.2.2.1 (a.2.2.2:Nat) a.2.2.2) (fun a=>L.length - a.2.2.2)
  (fun a=>bU XL 2 1 OJ a.1 a.2.1 a.2.2.1/\a.2.2.2<=L.length/\a.1.length<=a.2.2.2/\a.1++nbF a.2.2.2 (L.drop a.2.2.2)=nbF 0 L) ?_ (L.length+1) ([],.nils,none,0) ⟨lS,cn _,av _,rfl⟩ (by show L.length - 0<_;omega)⟩
 rintro ⟨Q,o,b,i⟩ ⟨ht,h1,h2,h3⟩ X hX
 simp only at ht h1 h2 h3 hX|-
 obtain ⟨o1,o2⟩:=hL.at i
 have stop: ¬i<L.length->aB opE (cM opR 0) opF opP 0 K (.exit 0) (opS L o b i i):=by
  intro hi
  have hi:i=L.length:=by omega
  subst hi
  rw [W3,cm] at h3
  rcases ht with ⟨h0,rfl,rfl⟩|⟨g,hne,rfl,rfl,hg⟩
  ·rw [XQ];exact hK.1 (by rw [<- h3];exact h0)
  ·rw [aAW]
   subst h3
   exact hK.2 g hg
 have skip:i<L.length->cH (L.getD i [])=[]->X (opS L o b (i+1:Nat) (i+1:Nat)):=fun hi hp=>
  hX (Q,o,b,i+1) ⟨ht,hi,by show Q.length<=i+1;omega,by show Q++nbF (i+1:Nat) (L.drop (i+1))=_;rw [<- JP hi hp];exact h3⟩ (by show L.length - (i+1)<L.length - i;omega)
 have push:i<L.length->cH (L.getD i [])≠[]-> ∀o' b',bU XL 2 1 OJ (Q++[((i:Int)+1,cH (L.getD i []))]) o' b'->X (opS L o' b' (i+1:Nat) (i+1:Nat)):=fun hi hp o' b' ht'=>
  hX (Q++[((i:Int)+1,cH (L.getD i []))],o',b',i+1) ⟨ht',hi,by show (Q++[_]).length<=i+1;simp;omega,by show (Q++[_])++nbF (i+1:Nat) (L.drop (i+1))=_;rw [bo,<- h3,N6 hi hp];rfl⟩ (by show L.length - (i+1)<L.length - i;omega)
 have hwi:i<L.length->IntKind.i64.wrap ((i:Int)+1)=((i+1:Nat):Int):=fun h=>aK h (by omega)
 have hpe: ∀P:List (List Int),decide (((P.length:Nat):Int)>0)= !P.isEmpty:=fun P=>by cases P<;>simp<;>omega
 rcases ht with ⟨rfl,rfl,rfl⟩|⟨g,hne,rfl,rfl,hg⟩
 ·rw [aBi]
  simp only [am,cX o1,aM,hpe]
  refine Br.of (fun c=> ?_) fun c=>stop fun h=>ae c (by omega)
  have c:i<L.length:=by have:=aa c;omega
  rw [hwi c]
  refine Br.of (fun _=>Br.of (fun _=>Br.of (fun d=> ?_) fun d=> ?_) fun f=>absurd o2 (ae f)) fun f=>eA c f
  ·exact push c (fun e=>by rw [e] at d;cases d) _ _ (by rw [dj];exact eT (by push_cast;rfl) rfl)
  ·exact skip c (by simpa using d)
 ·rw [ZA]
  simp only [am,cX o1,aM,hpe]
  refine Br.of (fun c=> ?_) fun c=>stop fun h=>ae c (by omega)
  have c:i<L.length:=by have:=aa c;omega
  rw [hwi c]
  refine Br.of (fun _=>Br.of (fun _=>Br.of (fun d=>Br.of (fun _=> ?_) fun f=> ?_) fun d=> ?_) fun f=>absurd o2 (ae f)) fun f=>eA c f
  ·exact push c (fun e=>by rw [e] at d;cases d) _ _ (fQ (by push_cast;rfl) rfl hg)
  ·rw [bf,bf] at f
   rcases f with (f|f)|f
   ·have:=ae f;omega
   ·have:=ae f;omega
   ·simp at f
  ·exact skip c (by simpa using d)
theorem E2{s:ByteArray}(h:s.size<=1048576):aBh (fR (aD s)):=by
 have hl:=cF s
 exact ⟨by have:=J9 (aD s) [];unfold fR;omega,aAj (dJ s) (by omega)⟩
theorem bF(s:ByteArray)(h:s.size<=1048576):aE Tryz.prog 31 [.str s] [] (.ptr 0 0) [some (.cells bkT (bkC (uO (aD s)) (lX (aD s))))] []:=by
 have hs:Sat Tryz.prog 31 [.str s] [] (opK (nbF 0 (fR (aD s))) (fR (aD s)).length):=fun K hK=>
  bS (env:=tab.env y5 (fun _=>0) (fun _=>false)) ⟨tab.htt,y5.ok⟩ tab.mixed (fun n=>tR n opR) tab.hft 3 _ _ _ K (by
   show EM opR (fun _=>0) y5 3 31 [.str s] [] K
   rw [aFt]
   exact Br.of (fun _=>aLt _ (E2 h) K hK) fun c=>absurd h (ae c))
 obtain ⟨v,σ',d,hv,hc⟩:=hs (fun v σ' d=>(nbF 0 (fR (aD s))=[]/\v= .ptr 0 0/\σ'=[some (.cells bkT [.nils,.int .i64 (fR (aD s)).length,.int .i64 0,.int .i64 0,.int .i64 0])]/\d=[])\/
   ∃g,(∀j (h:j<(nbF 0 (fR (aD s))).length),g j=OJ (nbF 0 (fR (aD s)))[j])/\v= .ptr 0 0/\σ'=[some (.cells bkT [.own 1 0 2 (nbF 0 (fR (aD s))).length,.int .i64 (fR (aD s)).length,.int .i64 0,.int .i64 0,.int .i64 0]),some (.row XL 2 (nbF 0 (fR (aD s))).length g)]/\d=[])
  ⟨fun hq=> .inl ⟨hq,rfl,rfl,rfl⟩,fun g hg=> .inr ⟨g,hg,rfl,rfl,rfl⟩⟩
 rcases hv with ⟨hq,rfl,rfl,rfl⟩|⟨g,hg,rfl,rfl,rfl⟩
 ·have:=EQ (st:=2) (g:=qG []) hc
  unfold lX uO bkC
  rw [hq]
  exact this
 ·exact EZ (g':=qG (nbF 0 (fR (aD s)))) rfl (fun i hi=>(hg i hi).trans (eN (L:=nbF 0 (fR (aD s))) hi).symm) hc
theorem AH {B:bT Tryz.prog} {n:Nat} {k:FuncId} {xs:List SV} {σ:List (Option SB)} {Φ:KC->Prop} {u:Nat->Nat} (D:List Nat) (hl: ∀p,p∈D->p<σ.length)
  (h: ∀K:KC,Φ K->calls (tab.env B u (fun _=>false)) (aA []) B.dom n k xs σ fun v σ' d=>(∀p,p∈d->p∈D)/\K v σ' D):Sat Tryz.prog k xs σ Φ:=fun K hK=>by
 obtain ⟨v,σ',d,⟨hd,hv⟩,hc⟩:=bS (env:=tab.env B u (fun _=>false)) ⟨tab.htt,B.ok⟩ tab.mixed (fun n=>aY n []) tab.hft n k xs σ _ (h K hK)
 exact ⟨v,σ',D,hv,tM hc hd hl⟩
theorem tI{σ:List (Option SB)}{a:Option SB}: ∀p,p∈[0]->p<(a::σ).length:=fun p h=>by rw [aq.1 h];exact Nat.zero_lt_succ _
def aFC :List SV->List (Option SB)->Option (Bool×SV×List (Option SB)×List Nat)
 | [.str s],[]=>some (decide (s.size<=1048576),.ptr 0 0,[some (.cells 130 (bkC (uO (aD s)) (lX (aD s))))],[])
 |_,_=>none
def cTk :List SV->List (Option SB)->KC->Prop
 | [.ptr 0 0,.str w,.int .i64 lo,.int .i64 hi],[some (.cells 130 cs)],K=> ∃(b:Bk) (all:Int),(cs=bkC all b/\aR b/\(0<=all/\all<=1048577))/\
   Br (iT b w lo hi) (K .nils [some (.cells 130 (bkC all (i7 all b w lo hi)))] [0]) (K (.ro (kE b).length 1 (aG (kE b))) [some (.cells 130 (bkC all (i7 all b w lo hi)))] [0])
 |_,_,_=>False
theorem aBS(xs:List SV)(σ:List (Option SB)):Sat Tryz.prog 81 xs σ (cTk xs σ):=by
 intro K hK
 unfold cTk at hK
 split at hK
 case h_2=>exact hK.elim
 obtain ⟨b,all,⟨rfl,h1,h2⟩,hK⟩:=hK
 refine AH (B:=y5) (n:=3) (u:=fun _=>0) (Φ:=fun K=>Br (iT b _ _ _) (K _ _ [0]) (K _ _ [0])) [0] tI (fun K hK=>aEL h1 h2 (fun hN d' hd=>⟨hd, ?_⟩) fun hN d' hd=>⟨hd, ?_⟩) K hK
 ·rw [hN] at hK;exact hK
 ·rw [hN] at hK;exact hK
def cNx :List SV->List (Option SB)->KC->Prop
 | [.ptr 0 0,.str w],[some (.cells 130 cs)],K=> ∃(b:Bk) (all:Int),(cs=bkC all b/\aR b)/\K (.bool (iE b w)) [some (.cells 130 (bkC all b))] [0]
 |_,_,_=>False
theorem aBK(xs:List SV)(σ:List (Option SB)):Sat Tryz.prog 80 xs σ (cNx xs σ):=by
 intro K hK
 unfold cNx at hK
 split at hK
 case h_2=>exact hK.elim
 obtain ⟨b,all,⟨rfl,h1⟩,hK⟩:=hK
 exact AH (B:=y5) (n:=3) (u:=fun _=>0) (Φ:=fun K=>K _ _ [0]) [0] tI (fun K hK=>aDF h1 ⟨t6,hK⟩) K hK
def cNm :List SV->List (Option SB)->KC->Prop
 | [.ptr 0 0,.str s],[some (.cells 130 cs)],K=> ∃(b:Bk) (all:Int),cs=bkC all b/\K (.int .i64 (yY b (aD s))) [some (.cells 130 (bkC all (nA b (aD s))))] [0]
 |_,_,_=>False
theorem aCz(xs:List SV)(σ:List (Option SB)):Sat Tryz.prog 76 xs σ (cNm xs σ):=by
 intro K hK
 unfold cNm at hK
 split at hK
 case h_2=>exact hK.elim
 obtain ⟨b,all,rfl,hK⟩:=hK
 exact AH (B:=y5) (n:=3) (u:=fun _=>0) (Φ:=fun K=>K _ _ [0]) [0] tI (fun K hK=>aGX fun d' hd=>⟨hd,hK⟩) K hK
def cIt :List SV->List (Option SB)->KC->Prop
 | [.ptr 0 0,.str s,.int .i64 lo,.int .i64 hi],[some (.cells 130 cs)],K=> ∃(b:Bk) (all:Int),cs=bkC all b/\K (.int .i64 (mX b (aD s) lo hi)) [some (.cells 130 (bkC all (kR b (aD s) lo hi)))] [0]
 |_,_,_=>False
theorem aCi(xs:List SV)(σ:List (Option SB)):Sat Tryz.prog 41 xs σ (cIt xs σ):=by
 intro K hK
 unfold cIt at hK
 split at hK
 case h_2=>exact hK.elim
 obtain ⟨b,all,rfl,hK⟩:=hK
 exact AH (B:=y5) (n:=3) (u:=fun _=>0) (Φ:=fun K=>K _ _ [0]) [0] tI (fun K hK=>aF4 fun d' hd=>⟨hd,hK⟩) K hK
def cOd :List SV->List (Option SB)->KC->Prop
 | [.ptr 0 0],[some (.cells 130 cs)],K=> ∃(b:Bk) (all:Int),cs=bkC all b/\K (.tup []) [some (.cells 130 (bkC all (yO b)))] [0]
 |_,_,_=>False
theorem aCN(xs:List SV)(σ:List (Option SB)):Sat Tryz.prog 82 xs σ (cOd xs σ):=by
 intro K hK
 unfold cOd at hK
 split at hK
 case h_2=>exact hK.elim
 obtain ⟨b,all,rfl,hK⟩:=hK
 exact AH (B:=y5) (n:=3) (u:=fun _=>0) (Φ:=fun K=>K _ _ [0]) [0] tI (fun K hK=>aF2 fun d' hd=>⟨hd,hK⟩) K hK
def cEn :List SV->List (Option SB)->KC->Prop
 | [.ptr 0 0],[some (.cells 130 cs)],K=> ∃(b:Bk) (all:Int),cs=bkC all b/\K (.tup [.int .i64 (LS b),.int .i64 (OH b)]) [some (.cells 130 (bkC all (aFq b)))] [0]
 |_,_,_=>False
theorem aBZ(xs:List SV)(σ:List (Option SB)):Sat Tryz.prog 42 xs σ (cEn xs σ):=by
 intro K hK
 unfold cEn at hK
 split at hK
 case h_2=>exact hK.elim
 obtain ⟨b,all,rfl,hK⟩:=hK
 exact AH (B:=y5) (n:=3) (u:=fun _=>0) (Φ:=fun K=>K _ _ [0]) [0] tI (fun K hK=>aFS fun d' hd=>⟨hd,hK⟩) K hK
noncomputable def y7 :bT Tryz.prog:=(((((((y6).add 31 (iU aFC) (cE fun xs σ v σ' d h=>by
  unfold aFC at h;split at h
  ·simp only [an,bn] at h
   obtain ⟨h1,rfl,rfl,rfl⟩:=h
   first|exact bF h1|exact bF _ h1|exact bF _ _ h1|exact bF _ _ _ h1|exact bF _ _ _ _ h1|exact bF _ _ _ _ _ h1|exact bF _ _ _ _ _ _ h1|exact bF _ _ _ _ _ _ _ h1|exact bF _ _ _ _ _ _ _ _ h1|exact bF _ _ _ _ _ _ _ _ _ h1|exact bF _ _ _ _ _ _ _ _ _ _ h1|exact bF _ _ _ _ _ _ _ _ _ _ _ h1|exact bF _ _ _ _ _ _ _ _ _ _ _ _ h1|exact bF (aa h1)|exact bF _ (aa h1)|exact bF _ _ (aa h1)|exact bF _ _ _ (aa h1)|exact bF _ _ _ _ (aa h1)|exact bF _ _ _ _ _ (aa h1)|exact bF _ _ _ _ _ _ (aa h1)|exact bF _ _ _ _ _ _ _ (aa h1)|exact bF _ _ _ _ _ _ _ _ (aa h1)|exact bF _ _ _ _ _ _ _ _ _ (aa h1)|exact bF _ _ _ _ _ _ _ _ _ _ (aa h1)|exact bF _ _ _ _ _ _ _ _ _ _ _ (aa h1)|exact bF _ _ _ _ _ _ _ _ _ _ _ _ (aa h1)
  ·cases h)).add 81 cTk aBS).add 80 cNx aBK).add 76 cNm aCz).add 41 cIt aCi).add 82 cOd aCN).add 42 cEn aBZ
theorem aF1(b:Bk)(all:Int)(s a c e f:ByteArray)(t:TypeId)(K:KC):kC 6 y5 3 83 [.ptr 0 0,.str s,.arr 1 0 4 4] [some (.cells bkT (bkC all b)),some (.cells t [.str a,.str c,.str e,.str f])] K=
 (Br (!b.err==0) (K (SV.int .i64 0) [some (SB.cells 130 [SV.ro b.q.length 2 (qG b.q),SV.int .i64 all,SV.int .i64 b.last,SV.int .i64 b.err,SV.int .i64 b.place]),some (SB.cells t [SV.str a,SV.str c,SV.str e,SV.str f])] []) (Br (s==a) (K (SV.int .i64 0) [some (SB.cells 130 [SV.ro b.q.length 2 (qG b.q),SV.int .i64 all,SV.int .i64 b.last,SV.int .i64 b.err,SV.int .i64 b.place]),some (SB.cells t [SV.str a,SV.str c,SV.str e,SV.str f])] []) (Br (s==c) (K (SV.int .i64 1) [some (SB.cells 130 [SV.ro b.q.length 2 (qG b.q),SV.int .i64 all,SV.int .i64 b.last,SV.int .i64 b.err,SV.int .i64 b.place]),some (SB.cells t [SV.str a,SV.str c,SV.str e,SV.str f])] []) (Br (s==e) (K (SV.int .i64 2) [some (SB.cells 130 [SV.ro b.q.length 2 (qG b.q),SV.int .i64 all,SV.int .i64 b.last,SV.int .i64 b.err,SV.int .i64 b.place]),some (SB.cells t [SV.str a,SV.str c,SV.str e,SV.str f])] []) (Br (s==f) (K (SV.int .i64 3) [some (SB.cells 130 [SV.ro b.q.length 2 (qG b.q),SV.int .i64 all,SV.int .i64 b.last,SV.int .i64 b.err,SV.int .i64 b.place]),some (SB.cells t [SV.str a,SV.str c,SV.str e,SV.str f])] []) (Br (b.err==0) (K (SV.int .i64 0) [some (SB.cells 130 [SV.ro b.q.length 2 (qG b.q),SV.int .i64 all,SV.int .i64 b.last,SV.int .i64 24,SV.int .i64 b.last]),some (SB.cells t [SV.str a,SV.str c,SV.str e,SV.str f])] [0]) (K (SV.int .i64 0) [some (SB.cells 130 [SV.ro b.q.length 2 (qG b.q),SV.int .i64 all,SV.int .i64 b.last,SV.int .i64 b.err,SV.int .i64 b.place]),some (SB.cells t [SV.str a,SV.str c,SV.str e,SV.str f])] []))))))):=by kernel_rfl
theorem aEf{b:Bk}{all:Int}{s a:ByteArray}{t:TypeId}{K:KC}(hK: ∀d',(∀p,p∈d'->p∈[0])->K (.int .i64 (rE b s [a])) [some (.cells bkT (bkC all (mV b s [a]))),some (.cells t [.str a])] d'):
  kC 3 y5 3 83 [.ptr 0 0,.str s,.arr 1 0 1 1] [some (.cells bkT (bkC all b)),some (.cells t [.str a])] K:=by
 rw [aG3]
 cases hc:b.err==0 with
 |false=>
  obtain ⟨t1,t2⟩:=LC (s:=s) (ws:=[a]) hc
  rw [t1,t2] at hK;exact hK [] t6
 |true=>
  refine Br.of (fun e=>by cases e) fun _=> ?_
  refine Br.of (fun h=> ?_) fun h0=> ?_
  ·obtain ⟨t1,t2⟩:=mH (ws:=[a]) (j:=0) hc (by rw [tU h]) (by simp)
   rw [t1,t2] at hK;exact hK [] t6
  obtain ⟨t1,t2⟩:=FC (ws:=[a]) hc (by rw [kA h0];rfl)
  rw [t1,t2] at hK
  exact Br.of (fun _=>hK [0] GU) fun e=>by cases e
theorem aFn{b:Bk}{all:Int}{s a c:ByteArray}{t:TypeId}{K:KC}(hK: ∀d',(∀p,p∈d'->p∈[0])->K (.int .i64 (rE b s [a,c])) [some (.cells bkT (bkC all (mV b s [a,c]))),some (.cells t [.str a,.str c])] d'):
  kC 4 y5 3 83 [.ptr 0 0,.str s,.arr 1 0 2 2] [some (.cells bkT (bkC all b)),some (.cells t [.str a,.str c])] K:=by
 rw [aGG]
 cases hc:b.err==0 with
 |false=>
  obtain ⟨t1,t2⟩:=LC (s:=s) (ws:=[a,c]) hc
  rw [t1,t2] at hK;exact hK [] t6
 |true=>
  refine Br.of (fun e=>by cases e) fun _=> ?_
  refine Br.of (fun h=> ?_) fun h0=> ?_
  ·obtain ⟨t1,t2⟩:=mH (ws:=[a,c]) (j:=0) hc (by rw [tU h]) (by simp)
   rw [t1,t2] at hK;exact hK [] t6
  refine Br.of (fun h=> ?_) fun h1=> ?_
  ·obtain ⟨t1,t2⟩:=mH (ws:=[a,c]) (j:=1) hc (by rw [kA h0,tU h]) (by simp)
   rw [t1,t2] at hK;exact hK [] t6
  obtain ⟨t1,t2⟩:=FC (ws:=[a,c]) hc (by rw [kA h0,kA h1];rfl)
  rw [t1,t2] at hK
  exact Br.of (fun _=>hK [0] GU) fun e=>by cases e
theorem aEb{b:Bk}{all:Int}{s a c e f:ByteArray}{t:TypeId}{K:KC}(hK: ∀d',(∀p,p∈d'->p∈[0])->K (.int .i64 (rE b s [a,c,e,f])) [some (.cells bkT (bkC all (mV b s [a,c,e,f]))),some (.cells t [.str a,.str c,.str e,.str f])] d'):
  kC 6 y5 3 83 [.ptr 0 0,.str s,.arr 1 0 4 4] [some (.cells bkT (bkC all b)),some (.cells t [.str a,.str c,.str e,.str f])] K:=by
 rw [aF1]
 cases hc:b.err==0 with
 |false=>
  obtain ⟨t1,t2⟩:=LC (s:=s) (ws:=[a,c,e,f]) hc
  rw [t1,t2] at hK;exact hK [] t6
 |true=>
  refine Br.of (fun e=>by cases e) fun _=> ?_
  refine Br.of (fun h=> ?_) fun h0=> ?_
  ·obtain ⟨t1,t2⟩:=mH (ws:=[a,c,e,f]) (j:=0) hc (by rw [tU h]) (by simp)
   rw [t1,t2] at hK;exact hK [] t6
  refine Br.of (fun h=> ?_) fun h1=> ?_
  ·obtain ⟨t1,t2⟩:=mH (ws:=[a,c,e,f]) (j:=1) hc (by rw [kA h0,tU h]) (by simp)
   rw [t1,t2] at hK;exact hK [] t6
  refine Br.of (fun h=> ?_) fun h2=> ?_
  ·obtain ⟨t1,t2⟩:=mH (ws:=[a,c,e,f]) (j:=2) hc (by rw [kA h0,kA h1,tU h]) (by simp)
   rw [t1,t2] at hK;exact hK [] t6
  refine Br.of (fun h=> ?_) fun h3=> ?_
  ·obtain ⟨t1,t2⟩:=mH (ws:=[a,c,e,f]) (j:=3) hc (by rw [kA h0,kA h1,kA h2,tU h]) (by simp)
   rw [t1,t2] at hK;exact hK [] t6
  obtain ⟨t1,t2⟩:=FC (ws:=[a,c,e,f]) hc (by rw [kA h0,kA h1,kA h2,kA h3];rfl)
  rw [t1,t2] at hK
  exact Br.of (fun _=>hK [0] GU) fun e=>by cases e
def cOn :List SV->List (Option SB)->KC->Prop
 | [.ptr 0 0,.str s,.arr 1 0 1 1],[some (.cells 130 cs),some (.cells t [.str a])],K=> ∃(b:Bk) (all:Int),cs=bkC all b/\K (.int .i64 (rE b s [a])) [some (.cells 130 (bkC all (mV b s [a]))),some (.cells t [.str a])] [0]
 | [.ptr 0 0,.str s,.arr 1 0 2 2],[some (.cells 130 cs),some (.cells t [.str a,.str c])],K=> ∃(b:Bk) (all:Int),cs=bkC all b/\K (.int .i64 (rE b s [a,c])) [some (.cells 130 (bkC all (mV b s [a,c]))),some (.cells t [.str a,.str c])] [0]
 | [.ptr 0 0,.str s,.arr 1 0 4 4],[some (.cells 130 cs),some (.cells t [.str a,.str c,.str e,.str f])],K=> ∃(b:Bk) (all:Int),cs=bkC all b/\K (.int .i64 (rE b s [a,c,e,f])) [some (.cells 130 (bkC all (mV b s [a,c,e,f]))),some (.cells t [.str a,.str c,.str e,.str f])] [0]
 |_,_,_=>False
theorem aFp(xs:List SV)(σ:List (Option SB)):Sat Tryz.prog 83 xs σ (cOn xs σ):=by
 intro K hK
 unfold cOn at hK
 split at hK
 case h_4=>exact hK.elim
 all_goals obtain ⟨b,all,rfl,hK⟩:=hK
 ·exact AH (B:=y5) (n:=3) (u:=fun _=>3) (Φ:=fun K=>K _ _ [0]) [0] tI (fun K hK=>aEf fun d' hd=>⟨hd,hK⟩) K hK
 ·exact AH (B:=y5) (n:=3) (u:=fun _=>4) (Φ:=fun K=>K _ _ [0]) [0] tI (fun K hK=>aFn fun d' hd=>⟨hd,hK⟩) K hK
 ·exact AH (B:=y5) (n:=3) (u:=fun _=>6) (Φ:=fun K=>K _ _ [0]) [0] tI (fun K hK=>aEb fun d' hd=>⟨hd,hK⟩) K hK
noncomputable def y8 :bT Tryz.prog:=(y7).add 83 cOn aFp
end Go.Proofs.YtghnfjfkjhbgdaaGreatDoor
namespace Go.Se
structure Trk where
 rate:Int
 cell:Int
 cols:Int
 rows:Int
 cx:Int
 cy:Int
 nh:Nat
 h:Nat->Int
 ng:Nat
 g:Nat->Int
 nk:Nat
 kg:Nat->Int
 kd:Nat->Int
 ko:Nat->Bool
 nl:Nat
 lx:Nat->Int
 ly:Nat->Int
 nr:Nat
 rn:Nat->Nat
 rx:Nat->Nat->Int
 ry:Nat->Nat->Int
 nt:Nat
 ax:Nat->Int
 ay:Nat->Int
 bx:Nat->Int
 sb:Nat->Int
 sp:Nat->Bool
 sx:Int
 sy:Int
 head:Int
 laps:Int
def bA(x y:Nat->Int):Nat->List SV:=fun k=>[.int .i64 (x k),.int .i64 (y k)]
def bN(t:Trk):Nat->List SV:=fun i=>[.ro (t.rn i) 2 (bA (t.rx i) (t.ry i))]
def fB(t:Trk):Nat->List SV:=fun i=>[.int .i64 (t.ax i),.int .i64 (t.ay i),.int .i64 (t.bx i),.int .i64 (t.sb i),.bool (t.sp i)]
def fH(t:Trk):Nat->List SV:=fun i=>[.int .i64 (t.kg i),.int .i64 (t.kd i),.bool (t.ko i)]
def aP(x:Nat->Int):Nat->List SV:=fun i=>[.int .i64 (x i)]
def aI(t:Trk):List SV:=
 [.int .i64 t.rate,.int .i64 t.cell,.int .i64 t.cols,.int .i64 t.rows,.int .i64 t.cx,.int .i64 t.cy,.ro t.nh 1 (aP t.h),.ro t.ng 1 (aP t.g),.ro t.nk 3 (fH t),.ro t.nl 2 (bA t.lx t.ly),
  .ro t.nr 1 (bN t),.ro t.nt 5 (fB t),.int .i64 t.sx,.int .i64 t.sy,.int .u32 t.head,.int .i64 t.laps]
abbrev Bar :=Int×Int×Int×Int×Int
def bsv(b:Bar):List SV:=[.int .i64 b.1,.int .i64 b.2.1,.int .i64 b.2.2.1,.int .i64 b.2.2.2.1,.int .i64 b.2.2.2.2]
def aDz(t:Trk)(i k:Nat):Bar:=(t.rx i k,t.ry i k,t.rx i (k+1),t.ry i (k+1),(i:Int))
def aLH(l:List Bar):List SV:=l.flatMap bsv
def nF(x y:Int):Bool:=decide ((if y>x then y else x)>281474976710656)||decide ((if y<x then y else x)< -281474976710656)
def aN(X Y:Nat->Int):Nat->List SV:=fun i=>[.int .i64 (X i),.int .i64 (Y i)]
def px :List SV->Int
 | .int _ x::_=>x
 |_=>0
def py :List SV->Int
 |_:: .int _ y::_=>y
 |_=>0
def pts(get:Nat->List SV):Prop:= ∀i,get i=[.int .i64 (px (get i)),.int .i64 (py (get i))]
theorem rO{get:Nat->List SV}(h:pts get):get=aN (fun i=>px (get i)) (fun i=>py (get i)):=funext h
def uJ(n d:Int):Int:=(n+d - 1)/d
def oF(ax ay bx ey x y:Int):Int:=(bx - ax)*(y - ay) - (ey - ay)*(x - ax)
def oZ(ax ay bx ey x y:Int):Int:=(bx - ax)*(x - ax)+(ey - ay)*(y - ay)
def uL(ax ay bx ey x y:Int):Bool:=nF ax ay||(nF bx ey||nF x y)
def AX(ax ay bx ey x y:Int):Int:=
 bif uL ax ay bx ey x y then 0
 else bif decide (0<=oF ax ay bx ey x y)||(decide (oZ ax ay bx ey x y<0)||decide (oZ bx ey ax ay x y<0)) then 0
 else uJ (-oF ax ay bx ey x y) (gU (oZ ax ay bx ey bx ey))
theorem GT{x y:Int}:nF x y=false↔(-281474976710656<=x/\x<=281474976710656)/\(-281474976710656<=y/\y<=281474976710656):=by
 unfold nF
 simp only [dh,aw]
 split<;>split<;>omega
theorem A2{a b N M:Int}(h1: -N<=a)(h2:a<=N)(h3: -M<=b)(h4:b<=M): -(N*M)<=a*b/\a*b<=N*M:=by
 have e1:=fc (show 0<=N - a by omega) (show 0<=M+b by omega)
 have e2:=fc (show 0<=N+a by omega) (show 0<=M - b by omega)
 have e3:=fc (show 0<=N - a by omega) (show 0<=M - b by omega)
 have e4:=fc (show 0<=N+a by omega) (show 0<=M+b by omega)
 simp only [Int.sub_mul,Int.add_mul,Int.mul_add,Int.mul_sub] at e1 e2 e3 e4
 omega
theorem nC{a b:Int}(h1: -562949953421312<=a)(h2:a<=562949953421312)(h3: -562949953421312<=b)(h4:b<=562949953421312):
  -316912650057057350374175801344<=a*b/\a*b<=316912650057057350374175801344:=by
 have:=A2 h1 h2 h3 h4
 omega
theorem pJ{A L q:Int}(hL:0<L)(h1:(q - 1)*L<A)(h2:A<=q*L):uJ A L=q:=by
 unfold uJ
 have a1:q<=(A+L - 1)/L:=by
  rw [Int.le_ediv_iff_mul_le hL]
  rw [Int.sub_mul] at h1;omega
 have a2:(A+L - 1)/L<q+1:=by
  rw [ec hL,Int.add_mul];omega
 omega
theorem aB8{A L:Int}(_hA:0<=A)(hL:0<L):(bif decide (iY A L*L<A) then iY A L+1 else iY A L)=uJ A L:=by
 have h1:=Int.ediv_mul_add_emod A L
 have h2:=gv A (show L≠0 by omega)
 have h3:=gp A hL
 unfold iY
 cases hc:(decide (A%L>L - A%L)||(A%L==L - A%L&&A/L%2==1))&&decide (A%L>0) with
 |true=>
  simp only [af,ak] at hc
  simp only [ar]
  have e:(A/L+1)*L=A/L*L+L:=by rw [Int.add_mul,Int.one_mul]
  rw [aj (by omega)]
  simp only [ap]
  exact (pJ hL (by rw [show A/L+1 - 1=A/L by omega];omega) (by omega)).symm
 |false=>
  simp only [ap]
  cases hd:decide (A/L*L<A) with
  |true=>
   have hd':=aa hd
   have e:(A/L+1)*L=A/L*L+L:=by rw [Int.add_mul,Int.one_mul]
   simp only [ar]
   exact (pJ hL (by rw [show A/L+1 - 1=A/L by omega];omega) (by omega)).symm
  |false=>
   have hd':=ae hd
   have e:(A/L - 1)*L=A/L*L - L:=by rw [Int.sub_mul,Int.one_mul]
   simp only [ap]
   exact (pJ hL (by omega) (by omega)).symm
def sN(A L:Int):Nat->Int->Int
 |0,n=>n
 |k+1,n=>bif decide ((n+2^k)*L<A) then sN A L k (n+2^k) else sN A L k n
theorem GO{A L:Int}: ∀(k:Nat) (n:Int),n*L<A->A<=(n+2^k)*L->sN A L k n*L<A/\A<=(sN A L k n+1)*L
 |0,n,h1,h2=>⟨h1,by rw [Int.pow_zero] at h2;exact h2⟩
 |k+1,n,h1,h2=>by
  unfold sN
  cases hc:decide ((n+2^k)*L<A) with
  |true=>
   refine GO k _ (aa hc) ?_
   rw [fi] at h2
   rw [show n+2^k+2^k=n+2^k*2 by omega];exact h2
  |false=>exact GO k n h1 (by have:=ae hc;omega)
theorem UH{x y:Int}(hx: -562949953421312<=x/\x<=562949953421312)(hy: -562949953421312<=y/\y<=562949953421312):
  (-gU (x*x+y*y)<=x/\x<=gU (x*x+y*y))/\(-gU (x*x+y*y)<=y/\y<=gU (x*x+y*y))/\0<=gU (x*x+y*y)/\gU (x*x+y*y)<=1125899906842624:=by
 have m1:=nC hx.1 hx.2 hx.1 hx.2
 have m2:=nC hy.1 hy.2 hy.1 hy.2
 have s1:=A7 x
 have s2:=A7 y
 obtain ⟨r0,_,r1,r2⟩:=PR (N:=x*x+y*y) (by omega) (by omega)
 generalize gU (x*x+y*y)=L at*
 have key: ∀z:Int,z*z<=x*x+y*y->  -L<=z/\z<=L:=by
  intro z hz
  constructor
  ·refine Int.not_lt.1 fun h=> ?_
   have:=ga (show L+1<=  -z by omega) (show L+1<=  -z by omega) (by omega) (by omega)
   rw [Int.neg_mul_neg] at this;omega
  ·refine Int.not_lt.1 fun h=> ?_
   have:=ga (show L+1<=z by omega) (show L+1<=z by omega) (by omega) (by omega)
   omega
 refine ⟨key x (by omega),key y (by omega),r0,Int.not_lt.1 fun h=> ?_⟩
 have:=ga (show (1125899906842625:Int)<=L by omega) (show (1125899906842625:Int)<=L by omega) (by omega) (by omega)
 omega
theorem nL{ax ay bx ey x y:Int}(h:uL ax ay bx ey x y=false):
  ((-562949953421312<=bx - ax/\bx - ax<=562949953421312)/\(-562949953421312<=ey - ay/\ey - ay<=562949953421312))/\
  ((-562949953421312<=x - ax/\x - ax<=562949953421312)/\(-562949953421312<=y - ay/\y - ay<=562949953421312))/\
  ((-562949953421312<=x - bx/\x - bx<=562949953421312)/\(-562949953421312<=y - ey/\y - ey<=562949953421312)):=by
 unfold uL at h
 rw [dh,dh] at h
 obtain ⟨h1,h2,h3⟩:=h
 have:=GT.1 h1
 have:=GT.1 h2
 have:=GT.1 h3
 omega
theorem FO{ax ay bx ey x y:Int}(h:uL ax ay bx ey x y=false): -633825300114114700748351602688<=oF ax ay bx ey x y/\oF ax ay bx ey x y<=633825300114114700748351602688:=by
 obtain ⟨⟨h1,h2⟩,⟨h3,h4⟩,_⟩:=nL h
 have m1:=nC h1.1 h1.2 h4.1 h4.2
 have m2:=nC h2.1 h2.2 h3.1 h3.2
 unfold oF;omega
theorem JQ{ax ay bx ey x y:Int}(h:uL ax ay bx ey x y=false)(hA:oF ax ay bx ey x y<0):
  0<gU (oZ ax ay bx ey bx ey)/\gU (oZ ax ay bx ey bx ey)<=1125899906842624/\  -oF ax ay bx ey x y<=1125899906842624*gU (oZ ax ay bx ey bx ey):=by
 obtain ⟨⟨h1,h2⟩,⟨h3,h4⟩,_⟩:=nL h
 obtain ⟨l1,l2,l3,l4⟩:=UH h1 h2
 unfold oZ
 generalize gU ((bx - ax)*(bx - ax)+(ey - ay)*(ey - ay))=L at*
 have m1:=A2 l1.1 l1.2 h4.1 h4.2
 have m2:=A2 l2.1 l2.2 h3.1 h3.2
 unfold oF at hA|-
 have:0<L:=by
  refine Int.not_le.1 fun h0=> ?_
  have:L=0:=by omega
  subst this
  omega
 omega
theorem X1{ax ay bx ey x y:Int}(h:uL ax ay bx ey x y=false):(-633825300114114700748351602688<=oZ ax ay bx ey x y/\oZ ax ay bx ey x y<=633825300114114700748351602688)/\
  (-633825300114114700748351602688<=oZ bx ey ax ay x y/\oZ bx ey ax ay x y<=633825300114114700748351602688)/\(0<=oZ ax ay bx ey bx ey/\oZ ax ay bx ey bx ey<=633825300114114700748351602688):=by
 obtain ⟨⟨h1,h2⟩,⟨h3,h4⟩,⟨h5,h6⟩⟩:=nL h
 have m1:=nC h1.1 h1.2 h3.1 h3.2
 have m2:=nC h2.1 h2.2 h4.1 h4.2
 have m3:=nC (a:=ax - bx) (by omega) (by omega) h5.1 h5.2
 have m4:=nC (a:=ay - ey) (by omega) (by omega) h6.1 h6.2
 have m5:=nC h1.1 h1.2 h1.1 h1.2
 have m6:=nC h2.1 h2.2 h2.1 h2.2
 have s1:=A7 (bx - ax)
 have s2:=A7 (ey - ay)
 unfold oZ;omega
def wvw(p:Int):Int:=wv (p/18446744073709551616) (p%18446744073709551616)
theorem qE(p:Int):wvw p=p:=tE p
def aB6(p q:Int):Int:=bif dG (wvw p+wvw q) then wvw p+wvw q else 0
def aHA(p:Int):Int:=bif dG (-wvw p) then -wvw p else 0
theorem KO{p q:Int}(h: -170141183460469231731687303715884105728<=p+q)(h':p+q<170141183460469231731687303715884105728):aB6 p q=p+q:=by
 unfold aB6;rw [qE,qE,show dG (p+q)=true from (jU _).2 ⟨h,h'⟩];rfl
theorem MA{p:Int}(h: -170141183460469231731687303715884105728<p)(h':p<170141183460469231731687303715884105728):aHA p= -p:=by
 unfold aHA;rw [qE,show dG (-p)=true from (jU _).2 ⟨by omega,by omega⟩];rfl
def w64(x:Int):Int:=IntKind.i64.wrap x
theorem mS{x:Int}(h: -9223372036854775808<=x)(h':x<=9223372036854775807):w64 x=x:=by unfold w64;rw [fK];omega
def P0(ux uy vx vy:Int):Int:=aB6 (ux*vx) (uy*vy)
def BC(ux uy vx vy:Int):Int:=aB6 (ux*vy) (aHA (uy*vx))
def BN(ax ay bx ey x y:Int):Int:=BC (w64 (bx - ax)) (w64 (ey - ay)) (w64 (x - ax)) (w64 (y - ay))
def BZ(ax ay bx ey x y:Int):Int:=P0 (w64 (bx - ax)) (w64 (ey - ay)) (w64 (x - ax)) (w64 (y - ay))
theorem PW{ax ay bx ey x y:Int}(h:uL ax ay bx ey x y=false):BN ax ay bx ey x y=oF ax ay bx ey x y:=by
 obtain ⟨⟨h1,h2⟩,⟨h3,h4⟩,_⟩:=nL h
 have m1:=nC h1.1 h1.2 h4.1 h4.2
 have m2:=nC h2.1 h2.2 h3.1 h3.2
 unfold BN BC oF
 rw [mS (by omega) (by omega),mS (by omega) (by omega),mS (by omega) (by omega),mS (by omega) (by omega),MA (by omega) (by omega),KO (by omega) (by omega)]
 omega
theorem vT {ax ay bx ey x y:Int} (h1: -562949953421312<=bx - ax/\bx - ax<=562949953421312) (h2: -562949953421312<=ey - ay/\ey - ay<=562949953421312)
  (h3: -562949953421312<=x - ax/\x - ax<=562949953421312) (h4: -562949953421312<=y - ay/\y - ay<=562949953421312):BZ ax ay bx ey x y=oZ ax ay bx ey x y:=by
 have m1:=nC h1.1 h1.2 h3.1 h3.2
 have m2:=nC h2.1 h2.2 h4.1 h4.2
 unfold BZ P0 oZ
 rw [mS (by omega) (by omega),mS (by omega) (by omega),mS (by omega) (by omega),mS (by omega) (by omega),KO (by omega) (by omega)]
theorem C9{x:Int}:decide (gB x 0>=0)=decide (0<=x):=by
 unfold gB
 cases h:decide (x<0)
 ·have h':=ae h
  rw [ao (show 0<=x by omega)]
  simp only [ap];cases decide (0<x)<;>rfl
 ·have h':=aa h
  rw [aj (show¬0<=x by omega)];rfl
def A5(s t:Int):Int:=bif dG (s+t) then s+t else 0
def qH(ax ay bx ey x y:Int):Int:=A5 (w64 (bx - ax)*w64 (y - ay)) (-(w64 (ey - ay)*w64 (x - ax)))
def TM(ax ay bx ey x y:Int):Int:=A5 (w64 (bx - ax)*w64 (x - ax)) (w64 (ey - ay)*w64 (y - ay))
theorem lW(x:Int): -9223372036854775808<=w64 x/\w64 x<=9223372036854775807:=by unfold w64;rw [fK];omega
theorem QY{ax ay bx ey x y:Int}(h:uL ax ay bx ey x y=false):qH ax ay bx ey x y=oF ax ay bx ey x y:=by
 rw [<- PW h]
 obtain ⟨⟨h1,h2⟩,⟨h3,h4⟩,_⟩:=nL h
 have m1:=nC h1.1 h1.2 h4.1 h4.2
 have m2:=nC h2.1 h2.2 h3.1 h3.2
 unfold qH BN BC A5
 rw [mS (by omega) (by omega),mS (by omega) (by omega),mS (by omega) (by omega),mS (by omega) (by omega),MA (by omega) (by omega),KO (by omega) (by omega),
  show dG _=true from (jU _).2 ⟨by omega,by omega⟩]
 rfl
theorem aEx(ax ay bx ey x y:Int):TM ax ay bx ey x y=BZ ax ay bx ey x y:=by
 unfold TM BZ P0 A5 aB6
 rw [qE,qE]
def pz :List SV->Bool
 |_::_:: .bool b::_=>b
 |_=>false
def sZ(g:Nat->List SV):Prop:= ∀i,g i=[.int .i64 (px (g i))]
theorem y9{g:Nat->List SV}(h:sZ g):g=aP (fun i=>px (g i)):=funext h
def LX(g:Nat->List SV):Prop:= ∀i,g i=[.int .i64 (px (g i)),.int .i64 (py (g i)),.bool (pz (g i))]
def V1(a b:Nat->Int)(o:Nat->Bool):Nat->List SV:=fun i=>[.int .i64 (a i),.int .i64 (b i),.bool (o i)]
theorem aBu{g:Nat->List SV}(h:LX g):g=V1 (fun i=>px (g i)) (fun i=>py (g i)) (fun i=>pz (g i)):=funext h
def aFZ :List SV->Nat
 | .ro n _ _::_=>n
 |_=>0
def aHS :List SV->Nat->List SV
 | .ro _ _ g::_=>g
 |_=>fun _=>[]
def at3 :List SV->Int
 |_::_:: .int _ x::_=>x
 |_=>0
def at4 :List SV->Int
 |_::_::_:: .int _ x::_=>x
 |_=>0
def at5 :List SV->Bool
 |_::_::_::_:: .bool x::_=>x
 |_=>false
def aJe(g:Nat->List SV):Prop:= ∀i,g i=[.ro (aFZ (g i)) 2 (bA (fun k=>px (aHS (g i) k)) (fun k=>py (aHS (g i) k)))]
def aKH(g:Nat->List SV):Prop:= ∀i,g i=[.int .i64 (px (g i)),.int .i64 (py (g i)),.int .i64 (at3 (g i)),.int .i64 (at4 (g i)),.bool (at5 (g i))]
def mZ(a0 a1 a2 a3 a4 a5:Int)(nh:Nat)(h:Nat->List SV)(ng:Nat)(g:Nat->List SV)(nk:Nat)(kg:Nat->List SV)(nl:Nat)(l:Nat->List SV)(nr:Nat)(rl:Nat->List SV)(nt:Nat)(gt:Nat->List SV)(sx sy hd lp:Int):Trk where
 rate:=a0
 cell:=a1
 cols:=a2
 rows:=a3
 cx:=a4
 cy:=a5
 nh:=nh
 h:=fun i=>px (h i)
 ng:=ng
 g:=fun i=>px (g i)
 nk:=nk
 kg:=fun i=>px (kg i)
 kd:=fun i=>py (kg i)
 ko:=fun i=>pz (kg i)
 nl:=nl
 lx:=fun i=>px (l i)
 ly:=fun i=>py (l i)
 nr:=nr
 rn:=fun i=>aFZ (rl i)
 rx:=fun i k=>px (aHS (rl i) k)
 ry:=fun i k=>py (aHS (rl i) k)
 nt:=nt
 ax:=fun i=>px (gt i)
 ay:=fun i=>py (gt i)
 bx:=fun i=>at3 (gt i)
 sb:=fun i=>at4 (gt i)
 sp:=fun i=>at5 (gt i)
 sx:=sx
 sy:=sy
 head:=hd
 laps:=lp
def iX(h g kg l rl gt:Nat->List SV):Prop:=sZ h/\sZ g/\LX kg/\pts l/\aJe rl/\aKH gt
theorem i5{h g kg l rl gt:Nat->List SV}(hs:iX h g kg l rl gt)(a0 a1 a2 a3 a4 a5:Int)(nh ng nk nl nr nt:Nat)(sx sy hd lp:Int):
  [SV.int .i64 a0,.int .i64 a1,.int .i64 a2,.int .i64 a3,.int .i64 a4,.int .i64 a5,.ro nh 1 h,.ro ng 1 g,.ro nk 3 kg,.ro nl 2 l,.ro nr 1 rl,.ro nt 5 gt,.int .i64 sx,.int .i64 sy,.int .u32 hd,.int .i64 lp]=
   aI (mZ a0 a1 a2 a3 a4 a5 nh h ng g nk kg nl l nr rl nt gt sx sy hd lp):=by
 obtain ⟨h1,h2,h3,h4,h5,h6⟩:=hs
 have e1:h=aP (fun i=>px (h i)):=funext h1
 have e2:g=aP (fun i=>px (g i)):=funext h2
 have e3:kg=fH (mZ a0 a1 a2 a3 a4 a5 nh h ng g nk kg nl l nr rl nt gt sx sy hd lp):=funext h3
 have e4:l=bA (fun i=>px (l i)) (fun i=>py (l i)):=funext h4
 have e5:rl=bN (mZ a0 a1 a2 a3 a4 a5 nh h ng g nk kg nl l nr rl nt gt sx sy hd lp):=funext h5
 have e6:gt=fB (mZ a0 a1 a2 a3 a4 a5 nh h ng g nk kg nl l nr rl nt gt sx sy hd lp):=funext h6
 unfold aI
 rw [<- e3,<- e5,<- e6]
 show [SV.int .i64 a0,.int .i64 a1,.int .i64 a2,.int .i64 a3,.int .i64 a4,.int .i64 a5,.ro nh 1 h,.ro ng 1 g,.ro nk 3 kg,.ro nl 2 l,.ro nr 1 rl,.ro nt 5 gt,.int .i64 sx,.int .i64 sy,.int .u32 hd,.int .i64 lp]=[SV.int .i64 a0,.int .i64 a1,.int .i64 a2,.int .i64 a3,.int .i64 a4,.int .i64 a5,.ro nh 1 (aP (fun i=>px (h i))),.ro ng 1 (aP (fun i=>px (g i))),.ro nk 3 kg,.ro nl 2 (bA (fun i=>px (l i)) (fun i=>py (l i))),.ro nr 1 rl,.ro nt 5 gt,.int .i64 sx,.int .i64 sy,.int .u32 hd,.int .i64 lp]
 rw [<- e1,<- e2,<- e4]
theorem fZ(t:Trk):iX (aP t.h) (aP t.g) (fH t) (bA t.lx t.ly) (bN t) (fB t):=
 ⟨fun _=>rfl,fun _=>rfl,fun _=>rfl,fun _=>rfl,fun _=>rfl,fun _=>rfl⟩
def eY(m x:Int):Bool:=decide (x>m)||decide (x<IntKind.i64.wrap (0 - m))
def jG(x y:Int):Bool:=decide ((if y>x then y else x)>140737488355328)||decide ((if y<x then y else x)< -140737488355328)
def pN(n:Nat)(k:Int):Bool:=decide (k<0)||decide (k>=n)
def xE(g d:Int):Bool:=decide ((if d<g then d else g)<0)||(decide (g>8589934592)||decide (d>4294967296))
theorem qP{K:KC}{c a b:Bool}{σ:List (Option SB)}{d:List Nat}:Br c (K (.bool a) σ d) (K (.bool b) σ d)=K (.bool (bif c then a else b)) σ d:=by cases c<;>rfl
theorem aJJ{K:KC}{k:IntKind}{c:Bool}{a b:Int}{σ:List (Option SB)}{d:List Nat}:Br c (K (.int k a) σ d) (K (.int k b) σ d)=K (.int k (bif c then a else b)) σ d:=by cases c<;>rfl
theorem NY{K:KC}{a b:Bool}{σ:List (Option SB)}{d:List Nat}(h:K (.bool a) σ d)(e:b=a):K (.bool b) σ d:=e▸h
theorem aMD{K:KC}{k:IntKind}{a b:Int}{σ:List (Option SB)}{d:List Nat}(h:K (.int k a) σ d)(e:b=a):K (.int k b) σ d:=e▸h
def iD(cols rows:Int)(nh ng nk:Nat):Bool:=
 decide (1<=cols/\cols<=64/\1<=rows/\rows<=64/\1<=nk/\nk<=8)&&((nh:Int)==IntKind.i64.wrap (IntKind.i64.wrap (cols+1)*IntKind.i64.wrap (rows+1))&&(ng:Int)==IntKind.i64.wrap (cols*rows))
theorem nQ{cols rows:Int}{nh ng nk:Nat}(h:iD cols rows nh ng nk=true):((1<=cols/\cols<=64)/\(1<=rows/\rows<=64)/\(1<=nk/\nk<=8))/\
  (nh:Int)=(cols+1)*(rows+1)/\(ng:Int)=cols*rows/\nh=(cols+1).toNat*(rows+1).toNat/\nh<=4225/\ng<=4096:=by
 unfold iD at h
 simp only [af,ak,ci] at h
 obtain ⟨⟨h1,h2,h3,h4,h5,h6⟩,h7,h8⟩:=h
 have m1:=A2 (a:=cols+1) (b:=rows+1) (N:=65) (M:=65) (by omega) (by omega) (by omega) (by omega)
 have m2:=A2 (a:=cols) (b:=rows) (N:=64) (M:=64) (by omega) (by omega) (by omega) (by omega)
 have hw: ∀x:Int,-10000<=x->x<=10000->IntKind.i64.wrap x=x:=fun x _ _=>by rw [IntKind.wrap_i64];omega
 rw [hw (cols+1) (by omega) (by omega),hw (rows+1) (by omega) (by omega),hw _ (by omega) (by omega)] at h7
 rw [hw _ (by omega) (by omega)] at h8
 refine ⟨⟨⟨h1,h2⟩,⟨h3,h4⟩,h5,h6⟩,h7,h8, ?_,by omega,by omega⟩
 have e1:((cols+1).toNat:Int)=cols+1:=Int.toNat_of_nonneg (by omega)
 have e2:((rows+1).toNat:Int)=rows+1:=Int.toNat_of_nonneg (by omega)
 apply Int.ofNat.inj
 show (nh:Int)=(((cols+1).toNat*(rows+1).toNat:Nat):Int)
 rw [ig,e1,e2];exact h7
def kH(h:Nat->Int)(cell:Int)(w n i:Nat):Bool:=
 (decide ((i+1)%w≠0)&&eY cell (IntKind.i64.wrap (h (i+1) - h i)))||(decide (i+w<n)&&eY cell (IntKind.i64.wrap (h (i+w) - h i)))
theorem aGT{A B:Prop}:Br true A B=A:=rfl
theorem aEF{A B:Prop}:Br false A B=B:=rfl
theorem rW{n:Nat}(h:n<9223372036854775808):IntKind.i64.wrap (n:Int)=(n:Int):=by rw [IntKind.wrap_i64];omega
theorem PX(a b:Nat):((a:Int).tmod (b:Int))=((a%b:Nat):Int):=by rw [eo (Int.natCast_nonneg a)];exact (Int.natCast_emod a b).symm
theorem ME(a:Nat):((a:Int) !=0)=decide (a≠0):=by
 cases a with
 |zero=>rfl
 |succ n=>rw [ao (Nat.succ_ne_zero n),ei];omega
theorem orQ{K:KC}{a b:Bool}{σ:List (Option SB)}{d:List Nat}(h:K (.bool (a||b)) σ d):Br a (K (.bool true) σ d) (K (.bool b) σ d):=
 Br.of (fun c=>by rw [c] at h;exact h) fun c=>by rw [c] at h;exact h
theorem aMT{K:KC}{a b:Bool}{σ:List (Option SB)}{d:List Nat}(h:K (.bool (a&&b)) σ d):Br a (K (.bool b) σ d) (K (.bool false) σ d):=
 Br.of (fun c=>by rw [c] at h;exact h) fun c=>by rw [c] at h;exact h
def kD(t:Trk):Bool:=
 decide (t.cell<17179869184)||(decide (t.cell>274877906944)||((eY 140737488355328 t.cx||eY 140737488355328 t.cy)||(dO (fun i=>eY 2199023255552 (t.h i)) t.nh||
  (dO (kH t.h t.cell (t.cols+1).toNat t.nh) t.nh||(dO (fun i=>pN t.nk (t.g i)) t.ng||dO (fun i=>xE (t.kg i) (t.kd i)) t.nk)))))
def iQ(t:Trk):Int:=bif iD t.cols t.rows t.nh t.ng t.nk then (bif kD t then 40 else 0) else 42
theorem rS{k:Nat}(h1:1<=k)(h2:k<9223372036854775808):IntKind.i64.wrap ((k:Int) - 1)=((k - 1:Nat):Int):=by rw [IntKind.wrap_i64];omega
def QW(X Y:Nat->Int)(i:Nat):Bool:=X (i+1)==X i&&Y (i+1)==Y i
def FH(X Y:Nat->Int)(n:Nat):Bool:=dO (QW X Y) (n - 1)
theorem TE(k:Nat)(x y:Int)(X Y:Nat->Int):bK k [.int .i64 x,.int .i64 y] (aN X Y)=aN (fun j=>if j=k then x else X j) (fun j=>if j=k then y else Y j):=by
 funext j
 unfold bK aN
 by_cases h:j=k
 ·rw [ao h];simp only [if_pos h,ar]
 ·rw [aj h];simp only [if_neg h,ap]
def jY(n:Nat)(X Y:Nat->Int):Int:=
 bif decide ((n:Int)<3) then 42 else bif decide ((n:Int)>64) then 42 else bif dO (fun i=>nF (X i) (Y i)) n then 40 else 0
def IC(t:Trk):Bool:=decide (60<=t.rate)&&decide (t.rate<=1024)
def zP(t:Trk):Bool:=dO (fun i=>jG (t.lx i) (t.ly i)) t.nl
def fT(t:Trk):Int:=bif !IC t then 40 else bif iQ t !=0 then iQ t else bif jY t.nl t.lx t.ly !=0 then jY t.nl t.lx t.ly else bif zP t then 40 else 0
def yP(t:Trk)(i:Nat):Int:=
 bif !(decide ((2:Int)<=t.rn i)&&decide ((t.rn i:Int)<=64)) then 42 else bif dO (fun k=>jG (t.rx i k) (t.ry i k)) (t.rn i) then 40 else bif FH (t.rx i) (t.ry i) (t.rn i) then 43 else 0
def EA(t:Trk)(i:Nat):Int:=
 bif jG (t.ax i) (t.ay i)||jG (t.bx i) (t.sb i) then 40 else bif t.ax i==t.bx i&&t.ay i==t.sb i then 43 else 0
def qK(c:Nat->Int):Nat->Nat->Int×Int
 |0,_=>(0,0)
 |f+1,i=>bif c i !=0 then (c i,(i:Int)) else qK c f (i+1)
def nH(t:Trk):Int×Int:=bif decide ((t.nr:Int)>16) then (42,0) else qK (yP t) t.nr 0
def oY(t:Trk):Int×Int:=bif !(decide ((1:Int)<=t.nt)&&decide ((t.nt:Int)<=16)) then (42,0) else qK (EA t) t.nt 0
theorem QH{c:Nat->Int}{n i:Nat}(hi:i<n):qK c (n - i) i=bif c i !=0 then (c i,(i:Int)) else qK c (n - (i+1)) (i+1):=by
 rw [show n - i=(n - (i+1))+1 by omega];rfl
theorem VV{c:Nat->Int}{n i:Nat}{v:Int}(hi:i<n)(h:c i=v)(hv:(v !=0)=true):qK c (n - i) i=(v,(i:Int)):=by
 rw [QH hi,h,hv];rfl
theorem zI{c:Nat->Int}{n i:Nat}(hi:i<n)(h:c i=0):qK c (n - i) i=qK c (n - (i+1)) (i+1):=by
 rw [QH hi,h];rfl
def kI(t:Trk)(i k:Nat):List Bar:=(List.range k).map (aDz t i)
def lJ(t:Trk):Nat->List Bar
 |0=>[]
 |i+1=>lJ t i++kI t i (t.rn i - 1)
theorem tW(t:Trk)(i k:Nat):kI t i (k+1)=kI t i k++[aDz t i k]:=by
 unfold kI;rw [List.range_succ,gf];rfl
theorem A4(t:Trk)(i k:Nat):(kI t i k).length=k:=by unfold kI;simp
theorem nW{t:Trk}{m:Nat}(h: ∀i,i<t.nr->t.rn i<=m): ∀n,n<=t.nr->(lJ t n).length<=n*m
 |0,_=>cn _
 |n+1,hn=>by
  show (lJ t n++kI t n (t.rn n - 1)).length<=_
  rw [au,A4,bp,cj]
  have h1:=nW h n (by omega)
  have h2:=h n (by omega)
  omega
def mR(t:Trk):List Bar:=lJ t t.nr
def g8(t:Trk):Prop:=t.nr<=20/\ ∀i,i<t.nr->t.rn i<=100
theorem zV{r:Nat}(h:r<9223372036854775808):(if 0>IntKind.i64.wrap ((r:Int) - 1) then 0 else IntKind.i64.wrap ((r:Int) - 1))=((r - 1:Nat):Int):=by
 rw [IntKind.wrap_i64];split<;>omega
theorem yV(t:Trk)(i k:Nat):[SV.int .i64 (t.rx i k),.int .i64 (t.ry i k),.int .i64 (t.rx i (k+1)),.int .i64 (t.ry i (k+1)),.int .i64 i]=bsv (aDz t i k):=rfl
def oW :Bar:=(0,0,0,0,0)
def tY(L:List Bar):Nat->List SV:=aU bsv oW L
def nO(t:Trk)(b:Bar):Bool:=decide (0<AX b.1 b.2.1 b.2.2.1 b.2.2.2.1 t.sx t.sy)&&decide (AX b.1 b.2.1 b.2.2.1 b.2.2.2.1 t.sx t.sy<=17179869184)
def nS(t:Trk):Bool:=dO (fun i=>nO t ((mR t).getD i oW)) (mR t).length
def SR(t:Trk):Bool:=
 decide (t.sx<t.cx)||(decide (t.sy<t.cy)||(decide (t.sx>IntKind.i64.wrap (t.cx+IntKind.i64.wrap (t.cols*t.cell)))||decide (t.sy>IntKind.i64.wrap (t.cy+IntKind.i64.wrap (t.rows*t.cell)))))
def CA(t:Trk):Bool:=decide (1<=t.laps)&&decide (t.laps<=100)
def nD(t:Trk):Int×Int:=bif SR t then (40,0) else bif nS t then (43,0) else bif !CA t then (40,0) else (0,0)
def orV(a b:Int×Int):Int×Int:=bif a.1 !=0 then a else b
def cG(t:Trk):Int×Int:=orV (fT t,0) (orV (nH t) (orV (oY t) (nD t)))
def inR(x l h:Int):Bool:=decide (x>=l)&&decide (x<=h)
theorem zZ(x m:Int):(!inR x (IntKind.i64.wrap (0 - m)) m)=eY m x:=by
 unfold inR eY;grind
theorem aDN{i w:Nat}(hw:1<=w):decide (i%w<w - 1)=decide ((i+1)%w≠0):=by
 have h1:=Nat.div_add_mod i w
 have h2:=Nat.mod_lt i (show 0<w by omega)
 have e:(i+1)%w=(i%w+1)%w:=by
  conv=>lhs;rw [<- h1,Nat.add_assoc,Nat.mul_add_mod]
 rw [e]
 by_cases h:i%w+1<w
 ·rw [Nat.mod_eq_of_lt h,ao (by omega),ao (by omega)]
 ·rw [show i%w+1=w by omega,Nat.mod_self,aj (by omega),aj (by simp)]
theorem aDL{i w R:Nat}(hw:1<=w):decide (i/w<R - 1)=decide (i+w<w*R):=by
 have h:= @Nat.div_lt_iff_lt_mul w i (R - 1) (by omega)
 have e:(R - 1)*w=w*R - w:=by rw [Nat.sub_mul,cj,Nat.mul_comm]
 rw [dw,h,e]
 omega
theorem aEm(a b:Nat):((a:Int).tdiv (b:Int))=((a/b:Nat):Int):=by rw [cz (Int.natCast_nonneg a)];exact (Int.natCast_ediv a b).symm
theorem GW{a b:Int×Int}(h:(orV a b).1=0):a.1=0/\b.1=0:=by
 unfold orV at h
 cases hc:a.1 !=0
 ·rw [hc] at h
  refine ⟨?_,h⟩
  by_cases hx:a.1=0
  ·exact hx
  ·rw [ei.2 hx] at hc;cases hc
 ·rw [hc] at h
  rw [ei] at hc
  exact absurd h hc
def cV(x:Int):List SV:=[.int .i64 x]
def plL(x:Int×Int):List SV:=[.int .i64 x.1,.int .i64 x.2]
def kiL(x:Int×Int×Bool):List SV:=[.int .i64 x.1,.int .i64 x.2.1,.bool x.2.2]
def gaL(x:Int×Int×Int×Int×Bool):List SV:=[.int .i64 x.1,.int .i64 x.2.1,.int .i64 x.2.2.1,.int .i64 x.2.2.2.1,.bool x.2.2.2.2]
def raL(x:List (Int×Int)):List SV:=[.ro x.length 2 (aU plL (0,0) x)]
def pB{α:Type}(st:Nat)(f:α->List SV)(d:α)(L:List α):SV:= .ro L.length st (aU f d L)
structure TL where
 rate:Int
 cell:Int
 cols:Int
 rows:Int
 corner:Int×Int
 heights:List Int
 ground:List Int
 kinds:List (Int×Int×Bool)
 line:List (Int×Int)
 rails:List (List (Int×Int))
 gates:List (Int×Int×Int×Int×Bool)
 start:Int×Int
 head:Int
 laps:Int
def TL.trk(t:TL):Trk:=mZ t.rate t.cell t.cols t.rows t.corner.1 t.corner.2 t.heights.length (aU cV 0 t.heights) t.ground.length (aU cV 0 t.ground) t.kinds.length (aU kiL (0,0,false) t.kinds)
 t.line.length (aU plL (0,0) t.line) t.rails.length (aU raL [] t.rails) t.gates.length (aU gaL (0,0,0,0,false) t.gates) t.start.1 t.start.2 t.head t.laps
def TL.zero :TL:=⟨0,0,0,0,(0,0),[],[],[],[],[],[],(0,0),0,0⟩
def nHs(a b:Int):Int:=IntKind.i64.wrap (IntKind.i64.wrap (a+1)*IntKind.i64.wrap (b+1))
def nGs(a b:Int):Int:=IntKind.i64.wrap (a*b)
theorem TL.shape(t:TL):iX (aU cV 0 t.heights) (aU cV 0 t.ground) (aU kiL (0,0,false) t.kinds) (aU plL (0,0) t.line) (aU raL [] t.rails) (aU gaL (0,0,0,0,false) t.gates):=
 ⟨fun _=>rfl,fun _=>rfl,fun _=>rfl,fun _=>rfl,fun _=>rfl,fun _=>rfl⟩
def xF(t u:Trk):Prop:=
 (t.rate=u.rate/\t.cell=u.cell/\t.cols=u.cols/\t.rows=u.rows/\t.cx=u.cx/\t.cy=u.cy/\t.nh=u.nh/\t.ng=u.ng/\t.nk=u.nk)/\
 (∀i,i<t.nh->t.h i=u.h i)/\(∀i,i<t.ng->t.g i=u.g i)/\(∀i,i<t.nk->t.kg i=u.kg i/\t.kd i=u.kd i/\t.ko i=u.ko i)/\
 (t.nl=u.nl/\ ∀i,i<t.nl->t.lx i=u.lx i/\t.ly i=u.ly i)/\(t.nr=u.nr/\ ∀i,i<t.nr->t.rn i=u.rn i/\ ∀k,k<t.rn i->t.rx i k=u.rx i k/\t.ry i k=u.ry i k)/\
 (t.nt=u.nt/\ ∀i,i<t.nt->t.ax i=u.ax i/\t.ay i=u.ay i/\t.bx i=u.bx i/\t.sb i=u.sb i/\t.sp i=u.sp i)/\(t.sx=u.sx/\t.sy=u.sy/\t.head=u.head/\t.laps=u.laps)
theorem SX(t:Trk):xF t t:=
 ⟨⟨rfl,rfl,rfl,rfl,rfl,rfl,rfl,rfl,rfl⟩,fun _ _=>rfl,fun _ _=>rfl,fun _ _=>⟨rfl,rfl,rfl⟩,⟨rfl,fun _ _=>⟨rfl,rfl⟩⟩,⟨rfl,fun _ _=>⟨rfl,fun _ _=>⟨rfl,rfl⟩⟩⟩,⟨rfl,fun _ _=>⟨rfl,rfl,rfl,rfl,rfl⟩⟩,rfl,rfl,rfl,rfl⟩
theorem yM{i n m:Nat}(hi:i<n)(hm:n=m){c:Bool}(hc:c=false){A N X:Prop}(h:N):
  Br (decide ((i:Int)<(n:Int))) (Br (decide (0<=(i:Int))&&decide ((i:Int)<(n:Int))) (Br (decide (0<=(i:Int))&&decide ((i:Int)<(m:Int))) (Br c A N) False) False) X:=by
 subst hm;subst hc
 exact Br.of (fun _=>Br.of (fun _=>Br.of (fun _=>h) fun c=>eA hi c) fun c=>eA hi c) fun c=>iI hi c
theorem KZ{a b:Int}(h:a=b):(a !=b)=false:=by rw [h];exact bne_self_eq_false b
theorem YO{a b:Nat}(h:a=b):((a:Int) !=(b:Int))=false:=KZ (by rw [h])
abbrev cJ(x:Int):Prop:= -9223372036854775808<=x/\x<=9223372036854775807
structure aLM (t:TL):Prop where
 rate:60<=t.rate/\t.rate<=1024
 cell:cJ t.cell
 cols:1<=t.cols/\t.cols<=64
 rows:1<=t.rows/\t.rows<=64
 corner:cJ t.corner.1/\cJ t.corner.2
 nh:(nHs t.cols t.rows).toNat=t.heights.length
 heights: ∀x∈t.heights,cJ x
 ng:(nGs t.cols t.rows).toNat=t.ground.length
 ground: ∀x∈t.ground,0<=x/\x<=7
 kinds:1<=(t.kinds.length:Int)/\(t.kinds.length:Int)<=8/\ ∀c∈t.kinds,cJ c.1/\cJ c.2.1
 line:3<=(t.line.length:Int)/\(t.line.length:Int)<=64/\ ∀c∈t.line,cJ c.1/\cJ c.2
 rails:0<=(t.rails.length:Int)/\(t.rails.length:Int)<=16/\ ∀l∈t.rails,2<=(l.length:Int)/\(l.length:Int)<=64/\ ∀c∈l,cJ c.1/\cJ c.2
 gates:1<=(t.gates.length:Int)/\(t.gates.length:Int)<=16/\ ∀c∈t.gates,cJ c.1/\cJ c.2.1/\cJ c.2.2.1/\cJ c.2.2.2.1
 start:cJ t.start.1/\cJ t.start.2
 head:0<=t.head/\t.head<=4294967295
 laps:1<=t.laps/\t.laps<=100
def lst{α:Type}(f:Nat->α)(n:Nat):List α:=(List.range n).map f
theorem gW{α:Type}(f:Nat->α)(n:Nat):(lst f n).length=n:=by simp [lst]
theorem mT{α:Type}{f:Nat->α}{n:Nat}{x:α}(h:x∈lst f n): ∃i,i<n/\x=f i:=by
 unfold lst at h
 obtain ⟨i,h1,h2⟩:=fa.1 h
 exact ⟨i,List.mem_range.1 h1,h2.symm⟩
theorem oN{α:Type}(l:List α)(d:α):lst (fun i=>l.getD i d) l.length=l:=by
 unfold lst
 apply gr
 intro i
 rw [fm]
 by_cases h:i<l.length
 ·rw [List.getElem?_range h,dq,bc,be h];rfl
 ·rw [dy (by simpa using h),dy (by omega)];rfl
def TU(t:Trk):TL:=⟨t.rate,t.cell,t.cols,t.rows,(t.cx,t.cy),lst t.h t.nh,lst t.g t.ng,lst (fun i=>(t.kg i,t.kd i,t.ko i)) t.nk,lst (fun i=>(t.lx i,t.ly i)) t.nl,
 lst (fun i=>lst (fun k=>(t.rx i k,t.ry i k)) (t.rn i)) t.nr,lst (fun i=>(t.ax i,t.ay i,t.bx i,t.sb i,t.sp i)) t.nt,(t.sx,t.sy),t.head,t.laps⟩
theorem aD3(t:TL):TU t.trk=t:=by
 obtain ⟨a,b,c,d,e,h,g,k,l,r,q,s,u,v⟩:=t
 have e1:lst (TL.trk ⟨a,b,c,d,e,h,g,k,l,r,q,s,u,v⟩).h h.length=h:=oN h 0
 have e2:lst (TL.trk ⟨a,b,c,d,e,h,g,k,l,r,q,s,u,v⟩).g g.length=g:=oN g 0
 have e3:lst (fun i=>((k.getD i (0,0,false)).1,(k.getD i (0,0,false)).2.1,(k.getD i (0,0,false)).2.2)) k.length=k:=oN k (0,0,false)
 have e4:lst (fun i=>((l.getD i (0,0)).1,(l.getD i (0,0)).2)) l.length=l:=oN l (0,0)
 have e5:lst (fun i=>lst (fun k=>(((r.getD i []).getD k (0,0)).1,((r.getD i []).getD k (0,0)).2)) (r.getD i []).length) r.length=r:=by
  have:(fun i=>lst (fun k=>(((r.getD i []).getD k (0,0)).1,((r.getD i []).getD k (0,0)).2)) (r.getD i []).length)=fun i=>r.getD i []:=funext fun i=>oN (r.getD i []) (0,0)
  rw [this];exact oN r []
 have e6:lst (fun i=>((q.getD i (0,0,0,0,false)).1,(q.getD i (0,0,0,0,false)).2.1,(q.getD i (0,0,0,0,false)).2.2.1,(q.getD i (0,0,0,0,false)).2.2.2.1,(q.getD i (0,0,0,0,false)).2.2.2.2)) q.length=q:=oN q (0,0,0,0,false)
 show TL.mk a b c d (e.1,e.2) _ _ _ _ _ _ (s.1,s.2) u v=TL.mk a b c d e h g k l r q s u v
 congr 1
theorem IZ{c:Nat->Int}: ∀{f i:Nat},(qK c f i).1=0-> ∀j,i<=j->j<i+f->c j=0
 |0,i,_,j,h1,h2=>by omega
 |f+1,i,h,j,h1,h2=>by
  unfold qK at h
  cases e:c i !=0 with
  |true=>
   rw [e] at h
   simp only [ar] at h
   rw [h] at e;exact absurd e (by decide)
  |false=>
   rw [e] at h
   rcases Nat.eq_or_lt_of_le h1 with rfl|h3
   ·exact dt.1 e
   ·exact IZ h j h3 (by omega)
structure EP (t:Trk):Prop where
 cell:cJ t.cell
 corner:cJ t.cx/\cJ t.cy
 h: ∀i,i<t.nh->cJ (t.h i)
 k: ∀i,i<t.nk->cJ (t.kg i)/\cJ (t.kd i)
 l: ∀i,i<t.nl->cJ (t.lx i)/\cJ (t.ly i)
 r: ∀i,i<t.nr-> ∀k,k<t.rn i->cJ (t.rx i k)/\cJ (t.ry i k)
 g: ∀i,i<t.nt->cJ (t.ax i)/\cJ (t.ay i)/\cJ (t.bx i)/\cJ (t.sb i)
 s:cJ t.sx/\cJ t.sy
 head:0<=t.head/\t.head<=4294967295
theorem O0{t:Trk}(h:okL (aI t)):EP t:=by
 obtain ⟨_,h1,_,_,h2,h3,⟨_,h4⟩,_,⟨_,h5⟩,⟨_,h6⟩,⟨_,h7⟩,⟨_,h8⟩,h9,h10,h11,_⟩:=h
 exact {
  cell:=h1
  corner:=⟨h2,h3⟩
  h:=fun i hi=>(h4 i hi).1
  k:=fun i hi=>⟨(h5 i hi).1,(h5 i hi).2.1⟩
  l:=fun i hi=>⟨(h6 i hi).1,(h6 i hi).2.1⟩
  r:=fun i hi k hk=>⟨((h7 i hi).1.2 k hk).1,((h7 i hi).1.2 k hk).2.1⟩
  g:=fun i hi=>⟨(h8 i hi).1,(h8 i hi).2.1,(h8 i hi).2.2.1,(h8 i hi).2.2.2.1⟩
  s:=⟨h9,h10⟩
  head:=h11}
theorem W5{t:Trk}(h:(cG t).1=0)(hi:EP t):aLM (TU t):=by
 obtain ⟨g0,h⟩:=GW h
 obtain ⟨r0,h⟩:=GW h
 obtain ⟨t0,s0⟩:=GW h
 simp only at g0
 unfold fT at g0
 cases c1:IC t with
 |false=>rw [c1] at g0;exact absurd g0 (show¬(40:Int)=0 by decide)
 |true=>
 rw [c1] at g0
 simp only [eb,ap] at g0
 cases c2:iQ t !=0 with
 |true=>
  rw [c2] at g0
  simp only [ar] at g0
  rw [g0] at c2;exact absurd c2 (by decide)
 |false=>
 rw [c2] at g0
 simp only [ap] at g0
 cases c3:jY t.nl t.lx t.ly !=0 with
 |true=>
  rw [c3] at g0
  simp only [ar] at g0
  rw [g0] at c3;exact absurd c3 (by decide)
 |false=>
 have f0:=dt.1 c2
 have l0:=dt.1 c3
 unfold iQ at f0
 cases c4:iD t.cols t.rows t.nh t.ng t.nk with
 |false=>rw [c4] at f0;exact absurd f0 (show¬(42:Int)=0 by decide)
 |true=>
 rw [c4] at f0
 simp only [ar] at f0
 cases c5:kD t with
 |true=>rw [c5] at f0;exact absurd f0 (show¬(40:Int)=0 by decide)
 |false=>
 obtain ⟨⟨k1,k2,k3⟩,n1,n2,n3,n4,n5⟩:=nQ c4
 unfold kD at c5
 simp only [dh] at c5
 obtain ⟨_,_,_,_,_,c6,_⟩:=c5
 have hg:=e9.1 c6
 unfold IC at c1
 simp only [af,ak] at c1
 unfold jY at l0
 have hl:3<=t.nl/\t.nl<=64:=by
  cases d1:decide ((t.nl:Int)<3) with
  |true=>rw [d1] at l0;exact absurd l0 (show¬(42:Int)=0 by decide)
  |false=>
   rw [d1] at l0
   cases d2:decide ((t.nl:Int)>64) with
   |true=>rw [d2] at l0;exact absurd l0 (show¬(42:Int)=0 by decide)
   |false=>have:=ae d1;have:=ae d2;omega
 unfold nH at r0
 have hr:t.nr<=16/\ ∀i,i<t.nr->yP t i=0:=by
  cases d1:decide ((t.nr:Int)>16) with
  |true=>rw [d1] at r0;exact absurd r0 (show¬(42:Int)=0 by decide)
  |false=>
   rw [d1] at r0
   have:=ae d1
   exact ⟨by omega,fun i hi=>IZ r0 i (cn _) (by omega)⟩
 have hrn: ∀i,i<t.nr->2<=t.rn i/\t.rn i<=64:=fun i hi=>by
  have e:=hr.2 i hi
  unfold yP at e
  cases d1:(decide ((2:Int)<=t.rn i)&&decide ((t.rn i:Int)<=64)) with
  |false=>rw [d1] at e;exact absurd e (show¬(42:Int)=0 by decide)
  |true=>
   simp only [af,ak] at d1
   omega
 unfold oY at t0
 have ht:1<=t.nt/\t.nt<=16:=by
  cases d1:(decide ((1:Int)<=t.nt)&&decide ((t.nt:Int)<=16)) with
  |false=>rw [d1] at t0;exact absurd t0 (show¬(42:Int)=0 by decide)
  |true=>
   simp only [af,ak] at d1
   omega
 have hlp:1<=t.laps/\t.laps<=100:=by
  unfold nD at s0
  cases d1:SR t with
  |true=>rw [d1] at s0;exact absurd s0 (show¬(40:Int)=0 by decide)
  |false=>
   rw [d1] at s0
   cases d2:nS t with
   |true=>rw [d2] at s0;exact absurd s0 (show¬(43:Int)=0 by decide)
   |false=>
    rw [d2] at s0
    cases d3:CA t with
    |false=>rw [d3] at s0;exact absurd s0 (show¬(40:Int)=0 by decide)
    |true=>
     unfold CA at d3
     simp only [af,ak] at d3
     exact d3
 have w: ∀x:Int,-10000<=x->x<=10000->IntKind.i64.wrap x=x:=fun x _ _=>by rw [IntKind.wrap_i64];omega
 have m1:=A2 (a:=t.cols+1) (b:=t.rows+1) (N:=65) (M:=65) (by omega) (by omega) (by omega) (by omega)
 have m2:=A2 (a:=t.cols) (b:=t.rows) (N:=64) (M:=64) (by omega) (by omega) (by omega) (by omega)
 exact {
  rate:=c1
  cell:=hi.cell
  cols:=k1
  rows:=k2
  corner:=hi.corner
  nh:=by
   show (nHs t.cols t.rows).toNat=(lst t.h t.nh).length
   unfold nHs
   rw [w (t.cols+1) (by omega) (by omega),w (t.rows+1) (by omega) (by omega),w _ (by omega) (by omega),gW];omega
  heights:=fun x hx=>by
   obtain ⟨i,h1,rfl⟩:=mT hx
   exact hi.h i h1
  ng:=by
   show (nGs t.cols t.rows).toNat=(lst t.g t.ng).length
   unfold nGs
   rw [w _ (by omega) (by omega),gW];omega
  ground:=fun x hx=>by
   obtain ⟨i,h1,rfl⟩:=mT hx
   have:=hg i h1
   unfold pN at this
   simp only [dh,aw] at this
   omega
  kinds:=⟨by show 1<=((lst _ t.nk).length:Int);rw [gW];omega,by show ((lst _ t.nk).length:Int)<=8;rw [gW];omega,fun x hx=>by
   obtain ⟨i,h1,rfl⟩:=mT hx
   exact hi.k i h1⟩
  line:=⟨by show 3<=((lst _ t.nl).length:Int);rw [gW];omega,by show ((lst _ t.nl).length:Int)<=64;rw [gW];omega,fun x hx=>by
   obtain ⟨i,h1,rfl⟩:=mT hx
   exact hi.l i h1⟩
  rails:=⟨by show 0<=((lst _ t.nr).length:Int);rw [gW];omega,by show ((lst _ t.nr).length:Int)<=16;rw [gW];omega,fun x hx=>by
   obtain ⟨i,h1,rfl⟩:=mT hx
   have:=hrn i h1
   exact ⟨by rw [gW];omega,by rw [gW];omega,fun c hc=>by
    obtain ⟨k,h2,rfl⟩:=mT hc
    exact hi.r i h1 k h2⟩⟩
  gates:=⟨by show 1<=((lst _ t.nt).length:Int);rw [gW];omega,by show ((lst _ t.nt).length:Int)<=16;rw [gW];omega,fun x hx=>by
   obtain ⟨i,h1,rfl⟩:=mT hx
   exact hi.g i h1⟩
  start:=hi.s
  head:=hi.head
  laps:=hlp}
theorem QS{P:Program}{k:FuncId}{xs xs':List SV}{σ:List (Option SB)}{v:SV}{σ':List (Option SB)}{d:List Nat}(h: ∀ρ T w l,aX ρ T w xs l->aX ρ T w xs' l)(hc:aE P k xs' σ v σ' d):aE P k xs σ v σ' d:=
 fun ρ T w vals h1 h2 h3 h4=>hc ρ T w vals (h _ _ _ _ h1) h2 h3 h4
theorem I0{ρ:aL}{T:Nat->Prop}{w:World}{n m st:Nat}{g g':Nat->List SV}(hn:n=m)(h: ∀i,i<n-> ∀b o,fJ T w (g i) b o->fJ T w (g' i) b o){v:Value}(hv:rel ρ T w (.ro n st g) v):rel ρ T w (.ro m st g') v:=by
 subst hn
 obtain ⟨a,c,h1,h2,h3⟩:=hv
 refine ⟨a,c,h1,h2,fun hl=> ?_⟩
 obtain ⟨b,off,h4,hb,h5,h6⟩:=h3 hl
 exact ⟨b,off,h4,hb,h5,fun i hi=>h i hi _ _ (h6 i hi)⟩
theorem BW{ρ:aL}{T:Nat->Prop}{w:World}{n m st:Nat}{g g':Nat->List SV}(hn:n=m)(h: ∀i,i<n->g i=g' i){v:Value}(hv:rel ρ T w (.ro n st g) v):rel ρ T w (.ro m st g') v:=
 I0 hn (fun i hi _ _ hr=>by rw [<- h i hi];exact hr) hv
variable {P:Program}
theorem u4 {k:FuncId} {xs:List SV} {sb:SB} {T0:TypeId} {cs:List SV} {n st e:Nat} {g g':Nat->List SV} {d:List Nat} (hcs:ids.idsL cs=[]) (hg: ∀i,i<n->g i=g' i/\(g' i).length=st)
  (h:aE P k xs [some sb] (.own 1 0 st n) [some (.cells T0 cs),some (.row e st n g)] d):aE P k xs [some sb] (.ro n st g') [some (.cells T0 cs)] d:=by
 intro ρ T w vals h1 h2 h3 h4
 refine (h ρ T w vals h1 h2 h3 h4).mono fun y w' ⟨ρ',T',hd⟩=> ?_
 obtain ⟨b,c,r1,rfl,r2,r3,_⟩:=hd.val
 obtain ⟨b',r4,r5,vs,r6,r7,r8⟩:=hd.store 1 _ rfl
 rw [r1] at r4;cases r4
 obtain ⟨_,b0,_,z1,z2,z3⟩:=h2 0 (by simp)
 have hb0:=(h4.low 0 b0 z1).2
 have z4:=hd.names 0 b0 z1
 have hnew:w.heap.size<=b:=by
  rcases hd.fresh 1 b (by simp) r1 with h|⟨q,_,hq,_⟩
  ·exact h
  ·match q,hq with
   |0,hq=>cases hq
   |1,hq=>cases hq
 have hdead: ∀q:Nat,¬([some (SB.cells T0 cs),some (.row e st n g)]:List (Option SB))[q]? =some none:=fun q hq=>by
  match q,hq with
  |0,hq=>cases hq
  |1,hq=>cases hq
 refine ⟨fun p=>if p=0 then ρ' 0 else none,fun c=>T' c/\c≠b,{
  names:=fun p c hp=>by
   have:=(h4.low p c hp).1
   have hp0:p=0:=by simp at this;exact this
   subst hp0
   rw [if_pos rfl];exact hd.names 0 c hp
  only:=fun p c hp=>by
   by_cases hp0:p=0
   ·subst hp0;simp
   ·rw [if_neg hp0] at hp;cases hp
  len:=by simp
  val:= ?_
  store:=fun p s hp=>by
   match p,hp with
   |0,hp=>
    cases hp
    obtain ⟨b1,e1,e2,e3⟩:=hd.store 0 _ rfl
    rw [z4] at e1;cases e1
    refine ⟨b0,by rw [if_pos rfl];exact z4,⟨e2,by omega⟩, ?_⟩
    obtain ⟨vs0,f1,f2⟩:=e3
    exact ⟨vs0,f1,bB (ρ:=fun _=>none) (ρ':=fun p=>if p=0 then ρ' 0 else none) (T:=T') (fun _ _ h=>by cases h) (fun _ _ h=>h.1) (bG.refl T' w') _ _ (gO _ _ hcs f2)⟩
  fresh:=fun p c hp hb=>by
   rw [if_neg (by simp at hp;omega)] at hb;cases hb
  inj:=fun p q c hp _ hb=>by
   rw [if_neg (by simp at hp;omega)] at hb;cases hb
  dirty:=hd.dirty
  grow:=hd.grow
  tback:=fun c hc ht=>hd.tback c hc ht.1
  below:=fun p c hp=>by
   by_cases hp0:p=0
   ·subst hp0;rw [if_pos rfl] at hp;exact hd.below 0 c hp
   ·rw [if_neg hp0] at hp;cases hp
  tkeep:=fun c hc ht=>by
   rcases hd.tkeep c hc ht with h|⟨q,_,hq,_⟩
   ·exact .inl ⟨h,by omega⟩
   ·exact absurd hq (hdead q)}⟩
 refine ⟨some ⟨b,0*st,none⟩,c,rfl,⟨r2,by omega,fun he=>by cases he⟩,fun _=>⟨b,0,by rw [ce],(bk.1 r6).1,fun ht=>ht.2 rfl,fun i hi=> ?_⟩⟩
 obtain ⟨e1,e2⟩:=hg i hi
 rw [<- e1]
 have hr:=bB (T':=fun c=>T' c/\c≠b) (fun _ _ h=>h) (fun _ _ h=>h.1) (bG.refl T' w') _ _ (r8 i hi)
 rw [bi]
 refine eV hr fun j u hj=> ?_
 rw [fF r6]
 rw [br] at hj
 split at hj
 ·rw [bu] at hj
  simpa using hj
 ·cases hj
def qC{α:Type}(e st:Nat)(f:α->List SV)(L:List α)(b:SB)(K:KC):Prop:=
 (L=[]->K .nils [some b] [0])/\ ∀g,L≠[]->(∀j (h:j<L.length),g j=f L[j])->K (.own 1 0 st L.length) [some b,some (.row e st L.length g)] [0]
theorem mO {α:Type} {k:FuncId} {xs:List SV} {sb:SB} {T0:TypeId} {cs:List SV} {e st:Nat} {f:α->List SV} {d0:α} {L:List α} (hcs:ids.idsL cs=[]) (hf: ∀x,(f x).length=st)
  (h:Sat P k xs [some sb] (qC e st f L (.cells T0 cs))):aE P k xs [some sb] (.ro L.length st (aU f d0 L)) [some (.cells T0 cs)] [0]:=by
 obtain ⟨v,σ',d,hv,hc⟩:=h (fun v σ' d=>(L=[]/\v= .nils/\σ'=[some (.cells T0 cs)]/\d=[0])\/ ∃g,(∀j (h:j<L.length),g j=f L[j])/\v= .own 1 0 st L.length/\σ'=[some (.cells T0 cs),some (.row e st L.length g)]/\d=[0])
  ⟨fun hL=> .inl ⟨hL,rfl,rfl,rfl⟩,fun g _ hg=> .inr ⟨g,hg,rfl,rfl,rfl⟩⟩
 rcases hv with ⟨rfl,rfl,rfl,rfl⟩|⟨g,hg,rfl,rfl,rfl⟩
 ·exact oB hc
 ·exact u4 hcs (fun i hi=>⟨by rw [hg i hi,eN hi],by rw [eN hi];exact hf _⟩) hc
end Go.Se
namespace Go.Se
def dF(w:List Int):Prop:= ∀x,x∈w->xT x=false/\x≠10/\x≠35
theorem N0(n:Int): ∀x,x∈aH n->x=45\/(48<=x/\x<=57):=fun x hx=>by
 unfold aH kS at hx
 rcases ct.1 hx with hx|hx
 ·cases h:decide (n<0) with
  |true=>rw [h] at hx;exact .inl (aq.1 hx)
  |false=>rw [h] at hx;cases hx
 ·exact .inr (fU (eO n) x hx)
theorem aDy{x:Int}(h:x≠32)(h2:x≠9):xT x=false:=by
 unfold xT
 rw [beq_false_of_ne h,beq_false_of_ne h2];rfl
theorem NP(n:Int):dF (aH n):=fun x hx=>by
 have h:=N0 n x hx
 exact ⟨aDy (by omega) (by omega),by omega,by omega⟩
theorem aBc(n:Int):aH n≠[]:=fun e=>by
 have h:=congrArg List.length e
 unfold aH at h
 rw [au] at h
 have:=tT (aQ n)
 have h:(kS n).length+(aZ (aQ n) 1).length=0:=h
 omega
def eL :List (List Int)->List Int
 | []=>[]
 |w::r=>32::(w++eL r)
theorem M8 : ∀(r:List (List Int)) (w:List Int),w≠[]->dF w->(∀x,x∈r->x≠[]/\dF x)->mC [] (w++eL r)=w::r
 | [],w,h1,h2,_=>by
  rw [wW w [] (eL []) (fun x hx=>(h2 x hx).1),dj]
  show mC w []=[w]
  rw [DT]
  cases w with
  |nil=>exact absurd rfl h1
  |cons=>rfl
 |v::r,w,h1,h2,h3=>by
  obtain ⟨v1,v2⟩:=h3 v (bq ..)
  rw [wW w [] _ (fun x hx=>(h2 x hx).1),dj]
  show mC w (32::(v++eL r))=_
  rw [wX]
  show (bif w.isEmpty then mC [] (v++eL r) else w::mC [] (v++eL r))=_
  rw [M8 r v v1 v2 fun x hx=>h3 x (bm _ hx)]
  cases w with
  |nil=>exact absurd rfl h1
  |cons=>rfl
theorem RD{c:Int}: ∀{l:List Int},(∀x,x∈l->x≠c)->iN c l=false
 | [],_=>rfl
 |a::l,h=>by
  unfold iN
  rw [beq_false_of_ne (h a (bq ..)),RD (l:=l) fun x hx=>h x (bm _ hx)];rfl
theorem OU : ∀(r:List (List Int)) (x:Int),(∀v,v∈r->dF v)->x∈eL r->x≠10/\x≠35
 | [],x,_,h=>by cases h
 |v::r,x,h,hx=>by
  rcases cb.1 hx with rfl|hx
  ·exact ⟨by decide,by decide⟩
  rcases ct.1 hx with hx|hx
  ·exact (h v (bq ..) x hx).2
  ·exact OU r x (fun v hv=>h v (bm _ hv)) hx
theorem P6 : ∀(u w r:List Int),(∀x,x∈u->x≠10)->lnR w (u++10::r)=(w++u)::lnR [] r
 | [],w,r,_=>by rw [cm];rfl
 |a::u,w,r,h=>by
  rw [gk]
  conv=>lhs;unfold lnR
  rw [beq_false_of_ne (h a (bq ..)),ap,P6 u (w++[a]) r fun x hx=>h x (bm _ hx),bo];rfl
theorem aG9{w rest:List Int}{r:List (List Int)}{k:Int}(h1:w≠[])(h2:dF w)(h3: ∀x,x∈r->x≠[]/\dF x):
  nbF k (lnR [] (w++eL r++10::rest))=(k+1,w::r)::nbF (k+1) (lnR [] rest):=by
 have hm: ∀x,x∈w++eL r->x≠10/\x≠35:=fun x hx=>by
  rcases ct.1 hx with hx|hx
  ·exact (h2 x hx).2
  ·exact OU r x (fun v hv=>(h3 v hv).2) hx
 rw [P6 _ _ _ fun x hx=>(hm x hx).1,dj]
 conv=>lhs;unfold nbF
 have:cH (w++eL r)=w::r:=by
  unfold cH
  rw [rY 35 _ (RD fun x hx=>(hm x hx).2),M8 r w h1 h2 h3]
 rw [this];rfl
theorem ER{n:Int}(h0: -999999999999999999<=n)(h1:n<=999999999999999999):kL (aH n)=0/\g9 (aH n)=n:=by
 have ha:=eO n
 have hb:aQ n<1000000000000000000:=qU (by omega) (by omega)
 have hWd:zE (aZ (aQ n) 1):=fU ha
 have hW1:=tT (aQ n)
 have hW2:=sU (k:=18) ha (show aQ n<10^18 by omega) (by decide)
 have hw:aH n=kS n++(aZ (aQ n) 1++[]):=by rw [cm];rfl
 obtain ⟨m1,m2⟩:=D5 (n:=n) (m:=[]) hWd hW1
 have hnum:=AP (most:=18) hWd hW1 (by omega) (by omega)
 have hval:=wF (least:=1) ha (show aQ n<18446744073709551616 by omega)
 unfold kL g9
 rw [hw,m1,m2,cm,hnum.1,hnum.2,hval]
 refine ⟨rfl, ?_⟩
 unfold aQ
 cases h:decide (n<0)
 ·rfl
 ·show - -n=n
  omega
theorem Y2{n lo hi:Int}(h0: -999999999999999999<=n)(h1:n<=999999999999999999)(hl:lo<=n)(hh:n<=hi):A0 (aH n) lo hi=0:=by
 obtain ⟨a,b⟩:=ER h0 h1
 unfold A0
 rw [a,b,aj (show¬n<lo by omega),aj (show¬n>hi by omega)];rfl
theorem WP{b:Bk}{a:Int}:nB b 0 a=b:=by unfold nB;cases b.err==0<;>rfl
theorem rJ(n:Int):bH (aH n):=fun x hx=>by
 unfold aH kS at hx
 rcases ct.1 hx with hx|hx
 ·cases h:decide (n<0) with
  |true=>rw [h] at hx;have:=aq.1 hx;omega
  |false=>rw [h] at hx;cases hx
 ·have:=fU (eO n) x hx;omega
theorem K3(n:Int):aD (bytesOf (aH n))=aH n:=cX (rJ n)
theorem aCR{b:Bk}{n lo hi:Int}(hb:b.err=0)(h0: -999999999999999999<=n)(h1:n<=999999999999999999)(hl:lo<=n)(hh:n<=hi):
  kR b (aD (bytesOf (aH n))) lo hi=b/\mX b (aD (bytesOf (aH n))) lo hi=n:=by
 have e:=Y2 h0 h1 hl hh
 unfold kR mX
 rw [K3,e,hb,(ER h0 h1).2]
 exact ⟨WP,rfl⟩
theorem Z1{n:Int}(h0: -9223372036854775808<=n)(h1:n<=9223372036854775807):wB (aC n)=0/\u9 (aC n)=n:=by
 have ha:=eO n
 have hb:aQ n<9223372036854775809:=qU (by omega) (by omega)
 have hw0:0<=aQ n/4294967296:=by omega
 have hWd:zE (aZ (aQ n/4294967296) 1):=fU hw0
 have hW1:=tT (aQ n/4294967296)
 have hW2:=sU (k:=10) hw0 (show aQ n/4294967296<10^10 by omega) (by decide)
 obtain ⟨m1,m2⟩:=D5 (n:=n) (m:=uC (aQ n)) hWd hW1
 have hnum:=AP (most:=10) hWd hW1 (by omega) (by omega)
 have hval:=wF (least:=1) hw0 (show aQ n/4294967296<18446744073709551616 by omega)
 have key:sS (aC n)=true/\zK (aC n)=bM (aQ n)/\qL (eM 46 (dN (aC n))) 10=aQ n/4294967296:=by
  unfold sS zK
  rw [NN,m2]
  cases hf:bM (aQ n)==0 with
  |true=>
   have hF:uC (aQ n)=[]:=by unfold uC;rw [hf];rfl
   have hf0:bM (aQ n)=0:=by simpa using hf
   rw [hF,cm,rY 46 _ (wD (by decide) _ hWd),wD (by decide) _ hWd,hnum.1,hnum.2,hval,hf0]
   exact ⟨rfl,rfl,rfl⟩
  |false=>
   have hF:uC (aQ n)=46::lY (aZ (bM (aQ n)) 10):=by unfold uC;rw [hf];rfl
   have hne:bM (aQ n)≠0:=by simpa using hf
   have hfr:=oC ha
   have hflt:=OB ha
   have hpos:0<bM (aQ n):=by omega
   obtain ⟨c1,c2,c3⟩:=F3 (c:=46) (by decide) _ (lY (aZ (bM (aQ n)) 10)) hWd
   have htd:zE (lY (aZ (bM (aQ n)) 10)):=fun x hx=>fU hfr.1 x (IX hx)
   have hdd:zE (aZ (bM (aQ n)) 10):=fU hfr.1
   have hlen:(aZ (bM (aQ n)) 10).length=10:=by
    rw [EK hpos (by omega)]
    exact X0 (by have:=sU (k:=10) hfr.1 (show bM (aQ n)<10^10 by omega) (by decide);omega)
   have htl:=pG (aZ (bM (aQ n)) 10)
   have ht1:1<=(lY (aZ (bM (aQ n)) 10)).length:=by
    have:=x8 (r:=(aZ (bM (aQ n)) 10).reverse) (by
     obtain ⟨x,hx,hx'⟩:=AS 20 (bM (aQ n)) 10 0 [] hpos (by omega)
     exact ⟨x,by simpa [aZ] using hx,hx'⟩)
    unfold lY
    rw [eu]
    exact List.length_pos_iff.2 this
   have hpad:G2 (lY (aZ (bM (aQ n)) 10))=aZ (bM (aQ n)) 10:=by
    have:=HW (aZ (bM (aQ n)) 10)
    rw [hlen] at this
    exact this
   have n1:=AP (most:=10) htd ht1 (by omega) (by omega)
   have n2:=AP (most:=10) hdd (by omega) (by omega) (by omega)
   have hv2:=wF (least:=10) hfr.1 (show bM (aQ n)<18446744073709551616 by omega)
   rw [hF,c1,c2,c3,hnum.1,hnum.2,hval]
   have hrb:E1 (lY (aZ (bM (aQ n)) 10))=true:=by unfold E1;rw [n1.1,hpad,n2.1];rfl
   have hrn:xG (lY (aZ (bM (aQ n)) 10))=bM (aQ n):=by unfold xG;rw [n1.1,hpad,n2.2,hv2];rfl
   rw [hrb,hrn]
   exact ⟨rfl,rfl,rfl⟩
 obtain ⟨k1,k2,k3⟩:=key
 have hA:uE (aC n)=aQ n:=by
  unfold uE
  rw [k2,k3,YR ha]
  omega
 have hZ:I5 (aC n)=n:=by
  unfold I5
  rw [hA,NN,m1]
  unfold aQ
  cases h:decide (n<0)
  ·rfl
  ·show - -n=n
   omega
 unfold wB u9
 rw [k1,hZ,(kM n).2 (by omega)]
 exact ⟨rfl,rfl⟩
theorem DE(n:Int): ∀x,x∈aC n->x=45\/x=46\/(48<=x/\x<=57):=fun x hx=>by
 have ha:=eO n
 unfold aC kS at hx
 rcases ct.1 hx with hx|hx
 ·cases h:decide (n<0) with
  |true=>rw [h] at hx;exact .inl (aq.1 hx)
  |false=>rw [h] at hx;cases hx
 ·rcases ct.1 hx with hx|hx
  ·exact .inr (.inr (fU (by omega) x hx))
  ·cases hf:bM (aQ n)==0 with
   |true=>rw [hf] at hx;cases hx
   |false=>
    rw [hf] at hx
    rcases cb.1 hx with rfl|hx
    ·exact .inr (.inl rfl)
    ·exact .inr (.inr (fU (oC ha).1 x (IX hx)))
theorem SZ(n:Int):dF (aC n):=fun x hx=>by
 have h:=DE n x hx
 exact ⟨aDy (by omega) (by omega),by omega,by omega⟩
theorem aC6(n:Int):aC n≠[]:=fun e=>by
 have h:=congrArg List.length e
 unfold aC at h
 rw [au,au] at h
 have:=tT (aQ n/4294967296)
 have h:(kS n).length+((aZ (aQ n/4294967296) 1).length+_)=0:=h
 omega
theorem mF(n:Int):bH (aC n):=fun x hx=>by
 have:=DE n x hx
 exact ⟨by omega,by omega⟩
theorem wP(n:Int):(aC n).length<=42:=by
 unfold aC
 rw [au,au]
 have h1:=fS (aQ n/4294967296) 1
 have h2:(kS n).length<=1:=by unfold kS;cases decide (n<0)<;>simp
 have h3:(bif bM (aQ n)==0 then ([]:List Int) else 46::lY (aZ (bM (aQ n)) 10)).length<=21:=by
  cases bM (aQ n)==0 with
  |true=>exact cn _
  |false=>
   have:=pG (aZ (bM (aQ n)) 10)
   have h4:=fS (bM (aQ n)) 10
   simp only [ap,az]
   omega
 omega
theorem aBX{b:Bk}{n:Int}(hb:b.err=0)(h0: -9223372036854775808<=n)(h1:n<=9223372036854775807):nA b (aC n)=b/\yY b (aC n)=n:=by
 obtain ⟨a,c⟩:=Z1 h0 h1
 unfold nA yY
 rw [a,c,hb]
 exact ⟨WP,rfl⟩
def tG(l:List Int):Nat->List SV:=fun i=>[.int .u8 (l.getD i 0)]
theorem XN(s:ByteArray):FE s=tG (aD s):=by
 funext i
 unfold FE tG
 rw [BM]
theorem aGb(l m:List Int):qM l.length (tG l) (tG m)=tG (l++m):=by
 funext i
 unfold qM tG
 by_cases h:i<l.length
 ·rw [show i.blt l.length=true by simpa [Nat.blt_eq] using h,ar,bc,bc,fh h]
 ·rw [show i.blt l.length=false by rw [<- Bool.not_eq_true];simpa [Nat.blt_eq] using h,ap,bc,bc,fr (gh.1 h)]
theorem aEi(a b:ByteArray):aD (a++b)=aD a++aD b:=by
 unfold aD
 simp
theorem aGK(L:List Int):oR L.length (tG L)=L:=by
 unfold oR tG
 refine List.ext_getElem (by simp) fun i h1 h2=> ?_
 simp [FJ,bc,be h2]
def lnW(w:List Int)(r:List (List Int)):List Int:=w++eL r++[10]
def eK :List (List Int)->List Int
 | []=>[]
 |w::r=>w++eL r
theorem HR : ∀(a b:List (List Int)),eL (a++b)=eL a++eL b
 | [],_=>rfl
 |w::a,b=>by show 32::(w++eL (a++b))=32::(w++eL a)++eL b;rw [HR a b,gk,bo]
def oE :List Int:=[114,97,116,101]
def n9 :List Int:=[99,101,108,108]
def lT :List Int:=[115,105,122,101]
def iG :List Int:=[99,111,114,110,101,114]
def gR :List Int:=[104,101,105,103,104,116,115]
def iO :List Int:=[103,114,111,117,110,100]
def iK :List Int:=[107,105,110,100]
def gK :List Int:=[112,111,105,110,116]
def fP :List Int:=[114,97,105,108]
def gS :List Int:=[103,97,116,101]
def gC :List Int:=[115,116,97,114,116]
def m9 :List Int:=[108,97,112,115]
def wOn :List Int:=[111,110]
def KE :List Int:=[111,102,102]
def tC :List Int:=[112,108,97,105,110]
def tQ :List Int:=[115,112,108,105,116]
def dX(f:Nat->Int)(a n:Nat):List (List Int):=(List.range' a n).map fun i=>aC (f i)
def eZ(f:Nat->Int)(a n:Nat):List (List Int):=(List.range' a n).map fun i=>aH (f i)
def cY(x y:Nat->Int):Nat->Nat->List (List Int)
 |_,0=>[]
 |a,n+1=>aC (x a)::aC (y a)::cY x y (a+1) n
def bL(f:Nat->List Int):Nat->Nat->List Int
 |_,0=>[]
 |a,n+1=>f a++bL f (a+1) n
theorem lU(f:Nat->List Int): ∀(n a:Nat),bL f a (n+1)=bL f a n++f (a+n)
 |0,a=>by show f a++[]=[]++f (a+0);simp
 |n+1,a=>by
  show f a++bL f (a+1) (n+1)=(f a++bL f (a+1) n)++f (a+(n+1))
  rw [lU f n (a+1),bo,show a+1+n=a+(n+1) by omega]
theorem tV(f:Nat->Int)(a n:Nat):dX f a (n+1)=dX f a n++[aC (f (a+n))]:=by
 unfold dX
 rw [List.range'_concat]
 simp
theorem t7(f:Nat->Int)(a n:Nat):eZ f a (n+1)=eZ f a n++[aH (f (a+n))]:=by
 unfold eZ
 rw [List.range'_concat]
 simp
theorem pF(x y:Nat->Int): ∀(n a:Nat),cY x y a (n+1)=cY x y a n++[aC (x (a+n)),aC (y (a+n))]
 |0,a=>by show aC (x a)::aC (y a)::[]=_;simp [cY]
 |n+1,a=>by
  show aC (x a)::aC (y a)::cY x y (a+1) (n+1)=(aC (x a)::aC (y a)::cY x y (a+1) n)++_
  rw [pF x y n (a+1),show a+1+n=a+(n+1) by omega];simp
def onW(b:Bool):List Int:=bif b then KE else wOn
def gI(b:Bool):List Int:=bif b then tQ else tC
def mU(t:Trk):List Int:=
 lnW oE [aH t.rate]++lnW n9 [aC t.cell]++lnW lT [aH t.cols,aH t.rows]++lnW iG [aC t.cx,aC t.cy]++
 bL (fun r=>lnW gR (dX t.h (r*(t.cols+1).toNat) (t.cols+1).toNat)) 0 (t.rows+1).toNat++
 bL (fun r=>lnW iO (eZ t.g (r*t.cols.toNat) t.cols.toNat)) 0 t.rows.toNat++
 bL (fun i=>lnW iK [aC (t.kg i),aC (t.kd i),onW (t.ko i)]) 0 t.nk
def aID(t:Trk):List Int:=
 bL (fun i=>lnW gK [aC (t.lx i),aC (t.ly i)]) 0 t.nl++
 bL (fun i=>lnW fP (cY (t.rx i) (t.ry i) 0 (t.rn i))) 0 t.nr++
 bL (fun i=>lnW gS [aC (t.ax i),aC (t.ay i),aC (t.bx i),aC (t.sb i),gI (t.sp i)]) 0 t.nt++
 lnW gC [aC t.sx,aC t.sy,aH t.head]++lnW m9 [aH t.laps]
def xA(t:Trk):List Int:=mU t++aID t
def aJW :List (List Int)->Nat
 | []=>0
 |w::r=>w.length+aJW r
theorem JC : ∀r:List (List Int),(eL r).length=aJW r+r.length
 | []=>rfl
 |w::r=>by
  show ((w++eL r).length+1)=w.length+aJW r+(r.length+1)
  rw [au,JC r];omega
abbrev ba(l:List Int):ByteArray:=bytesOf l
def rl(p:List Int):List Int:=aD (bytesOf p)
def lnV(b:Bk)(w:ByteArray)(n:Nat):List (List Int):=bif iT b w n n then List.replicate n [] else kE b
def lnB(all:Int)(b:Bk)(w:ByteArray)(n:Nat):Bk:=i7 all b w n n
theorem W4{b:Bk}{w:ByteArray}{lo hi:Int}(h:iT b w lo hi=false):b.err=0/\b.q≠[]/\lo<=(kE b).length/\((kE b).length:Int)<=hi\/(eC b.q).2=[]:=by
 by_cases hz:(eC b.q).2=[]
 ·exact .inr hz
 left
 unfold iT at h
 rw [dh] at h
 obtain ⟨h1,h2⟩:=h
 have e1:b.err=0:=by simpa using h1
 have e2:pA b w lo hi=0:=by simpa using h2
 unfold pA at e2
 cases hq:b.q.isEmpty with
 |true=>rw [hq] at e2;exact absurd (show (20:Int)=0 from e2) (by decide)
 |false=>
  rw [hq] at e2
  simp only [ap] at e2
  cases hw: !(bytesOf ((eC b.q).2.getD 0 [])==w) with
  |true=>rw [hw] at e2;exact absurd (show (21:Int)=0 from e2) (by decide)
  |false=>
   rw [hw] at e2
   simp only [ap] at e2
   cases hc:decide ((((eC b.q).2.length:Int) - 1)<lo)||decide ((((eC b.q).2.length:Int) - 1)>hi) with
   |true=>rw [hc] at e2;exact absurd (show (22:Int)=0 from e2) (by decide)
   |false=>
    simp only [dh,aw] at hc
    have hl:0<(eC b.q).2.length:=List.length_pos_iff.2 hz
    refine ⟨e1,fun e=>(by rw [e] at hq;cases hq), ?_, ?_⟩<;>unfold kE<;>rw [List.length_tail]<;>omega
theorem H7{b:Bk}{w:ByteArray}{n:Nat}(hb:aR b)(h:iT b w n n=false):(kE b).length=n:=by
 rcases W4 h with ⟨_,_,h1,h2⟩|h0
 ·omega
 ·unfold iT pA at h
  cases hq:b.q.isEmpty with
  |true=>rw [hq] at h;simp at h
  |false=>
   exfalso
   have hq':b.q≠[]:=fun e=>by rw [e] at hq;cases hq
   have:=(hb.head hq').1
   rw [h0] at this;exact absurd this (by decide)
theorem L9{b:Bk}{w:ByteArray}{n:Nat}(hb:aR b):(lnV b w n).length=n:=by
 unfold lnV
 cases h:iT b w n n with
 |true=>exact List.length_replicate
 |false=>exact H7 hb h
def vC(s:List Int×Bk)(p:List Int):List Int×Bk:=(s.1++[yY s.2 (rl p)],nA s.2 (rl p))
def j9(b:Bk)(p:List (List Int)):List Int×Bk:=p.foldl vC ([],b)
theorem U0(b:Bk)(p:List (List Int))(x:List Int):j9 b (p++[x])=vC (j9 b p) x:=by
 unfold j9;rw [List.foldl_append];rfl
theorem wR(b:Bk): ∀p:List (List Int),(j9 b p).1.length=p.length:=fun p=>by
 have: ∀(p:List (List Int)) (s:List Int×Bk),(p.foldl vC s).1.length=s.1.length+p.length:=by
  intro p
  induction p with
  |nil=>intro s;rfl
  |cons x r ih=>intro s;show (r.foldl vC (vC s x)).1.length=_;rw [ih];unfold vC;simp;omega
 have:=this p ([],b)
 unfold j9;rw [this];simp
def plP(b:Bk)(p:List (List Int))(i:Nat):(Int×Int)×Bk:=
 ((yY b (rl (p.getD i [])),yY (nA b (rl (p.getD i []))) (rl (p.getD (i+1) []))),nA (nA b (rl (p.getD i []))) (rl (p.getD (i+1) [])))
def fO{α:Type}(f:Bk->List α×Bk):Nat->Bk->List α×Bk
 |0,b=>([],b)
 |n+1,b=>((fO f n b).1++(f (fO f n b).2).1,(f (fO f n b).2).2)
def dW{α:Type}(w:ByteArray)(one:Bk->α×Bk):Nat->List α×Bk->List α×Bk
 |0,s=>s
 |n+1,s=>bif iE s.2 w then dW w one n (s.1++[(one s.2).1],(one s.2).2) else s
def oQ(all:Int)(n:Nat)(b:Bk):List Int×Bk:=j9 (lnB all b (ba gR) n) (lnV b (ba gR) n)
def pD(lo hi:Int)(s:List Int×Bk)(p:List Int):List Int×Bk:=(s.1++[mX s.2 (rl p) lo hi],kR s.2 (rl p) lo hi)
def s9(all:Int)(n:Nat)(b:Bk):List Int×Bk:=(lnV b (ba iO) n).foldl (pD 0 7) ([],lnB all b (ba iO) n)
def j0(all:Int)(b:Bk):(Int×Int×Bool)×Bk:=
 let p:=lnV b (ba iK) 3
 let b1:=lnB all b (ba iK) 3
 let b2:=nA b1 (rl (p.getD 0 []))
 let b3:=nA b2 (rl (p.getD 1 []))
 ((yY b1 (rl (p.getD 0 [])),yY b2 (rl (p.getD 1 [])),rE b3 (ba (p.getD 2 [])) [ba wOn,ba KE]==1),mV b3 (ba (p.getD 2 [])) [ba wOn,ba KE])
def iJ(all:Int)(b:Bk):(Int×Int)×Bk:=plP (lnB all b (ba gK) 2) (lnV b (ba gK) 2) 0
def rI(b:Bk)(p:List (List Int)):Nat->List (Int×Int)×Bk
 |0=>([],b)
 |n+1=>((rI b p n).1++[(plP (rI b p n).2 p (2*n)).1],(plP (rI b p n).2 p (2*n)).2)
def iF(all:Int)(b:Bk):List (Int×Int)×Bk:=
 let p:=bif iT b (ba fP) 2 128 then [] else kE b
 let b1:=i7 all b (ba fP) 2 128
 bif p.length%2==1 then ([],yO b1) else rI b1 p (p.length/2)
def kU(all:Int)(b:Bk):(Int×Int×Int×Int×Bool)×Bk:=
 let p:=lnV b (ba gS) 5
 let s:=plP (lnB all b (ba gS) 5) p 0
 let t:=plP s.2 p 2
 ((s.1.1,s.1.2,t.1.1,t.1.2,rE t.2 (ba (p.getD 4 [])) [ba tC,ba tQ]==1),mV t.2 (ba (p.getD 4 [])) [ba tC,ba tQ])
def isB(b' b:Bk):Prop:=b'=b
def isW(p q:List (List Int)):Prop:=p=q
def U3(b:Bk)(s:ByteArray)(v:Int)(b':Bk):Prop:=v=yY b (aD s)/\b'=nA b (aD s)
def RE(b:Bk)(s:ByteArray)(lo hi v:Int)(b':Bk):Prop:=v=mX b (aD s) lo hi/\b'=kR b (aD s) lo hi
def aIW(b:Bk)(s a c:ByteArray)(v:Int)(b':Bk):Prop:=v=rE b s [a,c]/\b'=mV b s [a,c]
theorem aR.num{b:Bk}{p:List Int}(h:aR b):aR (nA b p):=by unfold nA;exact h.fail
theorem aR.int{b:Bk}{p:List Int}{lo hi:Int}(h:aR b):aR (kR b p lo hi):=by unfold kR;exact h.fail
theorem aR.one{b:Bk}{s:ByteArray}{ws:List ByteArray}(h:aR b):aR (mV b s ws):=by unfold mV;exact h.fail
theorem aR.odd{b:Bk}(h:aR b):aR (yO b):=by unfold yO;exact h.fail
def xX(all:Int)(b:Bk)(s:ByteArray)(n:Nat)(p:List (List Int))(b':Bk):Prop:=(p=lnV b s n/\p.length=n)/\b'=lnB all b s n
def dH(all:Int):Prop:=0<=all/\all<=1048577
def aLa(b:Bk)(p:List (List Int))(L:List Int)(b':Bk):Prop:=(L=(j9 b p).1/\L.length=p.length)/\b'=(j9 b p).2
def OO(b:Bk)(p:List (List Int))(x y:Int)(b':Bk):Prop:=(x,y)=(plP b p 0).1/\b'=(plP b p 0).2
theorem UK(b:Bk){p:List (List Int)}{i:Nat}(h:i<p.length):j9 b (p.take (i+1))=vC (j9 b (p.take i)) (p.getD i []):=by
 rw [List.take_add_one,be h]
 show j9 b (p.take i++[p[i]])=_
 rw [U0,bc,be h];rfl
theorem aR.nums{b:Bk}(h:aR b)(p:List (List Int)):aR (j9 b p).2:=by
 have: ∀(p:List (List Int)) (s:List Int×Bk),aR s.2->aR (p.foldl vC s).2:=by
  intro p
  induction p with
  |nil=>intro s h;exact h
  |cons x r ih=>intro s h;exact ih _ h.num
 exact this p _ h
theorem xY(p:List (List Int))(k:Nat):(fun i=>aG p (i+k))=aG (p.drop k):=by
 funext i
 show kQ (p.getD (i+k) [])=kQ ((p.drop k).getD i [])
 rw [bc,bc,bu,Nat.add_comm]
theorem EB(b:Bk)(p:List (List Int))(k:Nat):plP b (p.drop k) 0=plP b p k:=by
 unfold plP
 have e: ∀j,(p.drop k).getD j []=p.getD (k+j) []:=fun j=>by rw [bc,bc,bu]
 rw [e 0,e (0+1)];rfl
theorem QO{all:Int}{b:Bk}(h:aR b):aR (j0 all b).2:=(aR.take h).num.num.one
theorem IY{all:Int}{b:Bk}(h:aR b):aR (iJ all b).2:=(aR.take h).num.num
theorem OX{all:Int}{b:Bk}(h:aR b):aR (kU all b).2:=(aR.take h).num.num.num.num.one
theorem WJ{b:Bk}(h:aR b)(p:List (List Int)): ∀n,aR (rI b p n).2
 |0=>h
 |n+1=>(WJ h p n).num.num
theorem DP{all:Int}{b:Bk}(h:aR b):aR (iF all b).2:=by
 unfold iF
 simp only
 cases (bif iT b (ba fP) 2 128 then [] else kE b).length%2==1
 ·exact WJ h.take _ _
 ·exact h.take.odd
theorem JS{b:Bk}{w:ByteArray}{lo hi:Int}(hb:aR b)(h:iT b w lo hi=false):lo<=(kE b).length/\((kE b).length:Int)<=hi:=by
 rcases W4 h with ⟨_,_,h1,h2⟩|h0
 ·exact ⟨h1,h2⟩
 ·unfold iT pA at h
  cases hq:b.q.isEmpty with
  |true=>rw [hq] at h;simp at h
  |false=>
   exfalso
   have hq':b.q≠[]:=fun e=>by rw [e] at hq;cases hq
   have:=(hb.head hq').1
   rw [h0] at this;exact absurd this (by decide)
theorem GG(b:Bk)(p:List (List Int)): ∀n,(rI b p n).1.length=n
 |0=>rfl
 |n+1=>by show ((rI b p n).1++[_]).length=n+1;rw [au,GG b p n];rfl
theorem H3 {α:Type} {env:Env} {W:Nat->St->Option St} {fn:Func} {path:List Nat} {blk:Nat} {KK:Ex->St->Prop} {e st id:Nat} {f:α->List SV} (F:Nat->List α) (S:SV->Option SB->Nat->St) (n:Nat) (h0:F 0=[])
  (hr: ∀i o b,i<n->bU e st id f (F i) o b-> ∀X:St->Prop,(∀o' b',bU e st id f (F (i+1)) o' b'->X (S o' b' (i+1)))->aF env W fn path blk (gM X KK) (S o b i))
  (he: ∀o b,bU e st id f (F n) o b-> ∀X:St->Prop,aF env W fn path blk (gM X KK) (S o b n)):
  iter (aF env W fn path blk) KK (n+1) (S .nils none 0):=
 iH (fun a:SV×Option SB×Nat=>S a.1 a.2.1 a.2.2) (fun a=>n - a.2.2) (fun a=>a.2.2<=n/\bU e st id f (F a.2.2) a.1 a.2.1) (fun ⟨o,b,i⟩ ⟨h1,h2⟩ X hX=>by
  simp only at h1 h2 hX|-
  by_cases h:i<n
  ·exact hr i o b h h2 X fun o' b' ht=>hX (o',b',i+1) ⟨h,ht⟩ (by show n - (i+1)<n - i;omega)
  ·obtain rfl:i=n:=by omega
   exact he o b h2 X) (n+1) (.nils,none,0) ⟨cn _,by rw [h0];exact lS⟩ (by show n - 0<n+1;omega)
theorem sJ {α:Type} {e st id:Nat} {f:α->List SV} {L:List α} {b:SB} {K:KC} {o:SV} {r:Option SB} (ht:bU e st id f L o r) (hK:qC e st f L b K)
  {G:Prop} (h0:o= .nils->r=none->K .nils [some b] [0]->G) (h1: ∀n g,o= .own id 0 st n->r=some (.row e st n g)->K (.own 1 0 st n) [some b,some (.row e st n g)] [0]->G):G:=by
 rcases ht with ⟨hL,rfl,rfl⟩|⟨g,hne,rfl,rfl,hg⟩
 ·exact h0 rfl rfl (hK.1 hL)
 ·exact h1 _ g rfl rfl (hK.2 g hne hg)
theorem UC{α:Type}{w:ByteArray}{one:Bk->α×Bk}{s:List α×Bk}(h:iE s.2 w=false): ∀n,dW w one n s=s
 |0=>rfl
 |n+1=>by unfold dW;rw [h];rfl
theorem wJ {α:Type} {env:Env} {W:Nat->St->Option St} {fn:Func} {path:List Nat} {blk:Nat} {KK:Ex->St->Prop} {e st id:Nat} {f:α->List SV} {w:ByteArray} {one:Bk->α×Bk} (S:SV->Option SB->Bk->St) (most:Nat) (b0:Bk) (hb0:aR b0) (hone: ∀b,aR b->aR (one b).2)
  (hr: ∀(L:List α) (b:Bk) (o:SV) (r:Option SB),aR b->L.length<=most->bU e st id f L o r-> ∀X:St->Prop,
   (L.length<most->iE b w=true-> ∀o' r',bU e st id f (L++[(one b).1]) o' r'->X (S o' r' (one b).2))->
   ((L.length<most->iE b w=false)->KK (.exit 0) (S o r b))->aF env W fn path blk (gM X KK) (S o r b))
  (he: ∀(o:SV) (r:Option SB),bU e st id f (dW w one most ([],b0)).1 o r->aR (dW w one most ([],b0)).2->(dW w one most ([],b0)).1.length<=most->KK (.exit 0) (S o r (dW w one most ([],b0)).2)):
  iter (aF env W fn path blk) KK (most+1) (S .nils none b0):=by
 refine iH (fun a:SV×Option SB×List α×Bk=>S a.1 a.2.1 a.2.2.2) (fun a=>most - a.2.2.1.length) (fun a=>(a.2.2.1.length<=most/\aR a.2.2.2)/\bU e st id f a.2.2.1 a.1 a.2.1/\dW w one (most - a.2.2.1.length) a.2.2=dW w one most ([],b0)) ?_ (most+1) (.nils,none,[],b0) ⟨⟨cn _,hb0⟩,lS,rfl⟩ (by show most - 0<most+1;omega)
 rintro ⟨o,r,L,b⟩ ⟨⟨h1,hb⟩,h2,h3⟩ X hX
 simp only at h1 hb h2 h3 hX|-
 refine hr L b o r hb h1 h2 X (fun hl hn o' r' ht=> ?_) fun hc=> ?_
 ·refine hX (o',r',L++[(one b).1],(one b).2) ⟨⟨by show (L++[(one b).1]).length<=most;rw [au];exact hl,hone b hb⟩,ht, ?_⟩ (by show most - (L++[(one b).1]).length<most - L.length;rw [au,gi];omega)
  show dW w one (most - (L++[(one b).1]).length) (L++[(one b).1],(one b).2)=_
  rw [<- h3,au,gi,show most - L.length=(most - (L.length+1))+1 by omega]
  conv=>rhs;unfold dW
  rw [hn];rfl
 ·have hm:dW w one most ([],b0)=(L,b):=by
   rw [<- h3]
   by_cases hl:L.length<most
   ·exact UC (hc hl) _
   ·rw [show most - L.length=0 by omega];rfl
  have:=he o r (by rw [hm];exact h2) (by rw [hm];exact hb) (by rw [hm];exact h1)
  rw [hm] at this;exact this
def VG{α:Type}(w:ByteArray)(F:Bk->α×Bk)(m:Nat)(b:Bk)(L:List α)(b':Bk):Prop:=(L,b')=dW w F m ([],b)
def isF{α:Type}(F:Int->Bk->α×Bk)(all:Int)(b:Bk)(x:α)(b':Bk):Prop:=(x,b')=F all b
theorem pR{α:Type}{F:Int->Bk->α×Bk}{all:Int}{b:Bk}{x:α}{b':Bk}(h:isF F all b x b'):x=(F all b).1/\b'=(F all b).2:=⟨congrArg Prod.fst h,congrArg Prod.snd h⟩
def K0(all:Int)(w:ByteArray)(lo hi:Int)(b:Bk):Int×Bk:=(mX (lnB all b w 1) (rl ((lnV b w 1).getD 0 [])) lo hi,kR (lnB all b w 1) (rl ((lnV b w 1).getD 0 [])) lo hi)
def TA(all:Int)(w:ByteArray)(b:Bk):Int×Bk:=(yY (lnB all b w 1) (rl ((lnV b w 1).getD 0 [])),nA (lnB all b w 1) (rl ((lnV b w 1).getD 0 [])))
def zN(all:Int)(b:Bk):(Int×Int)×Bk:=
 let p:=lnV b (ba lT) 2
 let b1:=lnB all b (ba lT) 2
 let b2:=kR b1 (rl (p.getD 0 [])) 1 64
 ((mX b1 (rl (p.getD 0 [])) 1 64,mX b2 (rl (p.getD 1 [])) 1 64),kR b2 (rl (p.getD 1 [])) 1 64)
def tD(all:Int)(b:Bk):(Int×Int)×Bk:=plP (lnB all b (ba iG) 2) (lnV b (ba iG) 2) 0
def jZ(all:Int)(b:Bk):TL×Bk:=
 let r:=K0 all (ba oE) 60 1024 b
 let c:=TA all (ba n9) r.2
 let s:=zN all c.2
 let o:=tD all s.2
 let h:=fO (oQ all (s.1.1+1).toNat) (s.1.2+1).toNat o.2
 let g:=fO (s9 all s.1.1.toNat) s.1.2.toNat h.2
 let k:=dW (ba iK) (j0 all) 8 ([],g.2)
 (⟨r.1,c.1,s.1.1,s.1.2,o.1,h.1,g.1,k.1,[],[],[],(0,0),0,0⟩,k.2)
theorem V7{all:Int}{w:ByteArray}{lo hi:Int}{b:Bk}(h:aR b):aR (K0 all w lo hi b).2:=(aR.take h).int
theorem V4{all:Int}{w:ByteArray}{b:Bk}(h:aR b):aR (TA all w b).2:=(aR.take h).num
theorem WZ{all:Int}{b:Bk}(h:aR b):aR (zN all b).2:=(aR.take h).int.int
theorem FA{all:Int}{b:Bk}(h:aR b):aR (tD all b).2:=(aR.take h).num.num
theorem KJ{all:Int}{n:Nat}{b:Bk}(h:aR b):aR (oQ all n b).2:=aR.nums (aR.take h) _
theorem aHJ(lo hi:Int): ∀(p:List (List Int)) (s:List Int×Bk),aR s.2->aR (p.foldl (pD lo hi) s).2:=by
 intro p
 induction p with
 |nil=>intro s h;exact h
 |cons x r ih=>intro s h;exact ih _ h.int
theorem GB(lo hi:Int): ∀(p:List (List Int)) (s:List Int×Bk),(p.foldl (pD lo hi) s).1.length=s.1.length+p.length:=by
 intro p
 induction p with
 |nil=>intro s;rfl
 |cons x r ih=>intro s;show (r.foldl (pD lo hi) (pD lo hi s x)).1.length=_;rw [ih];unfold pD;simp;omega
theorem KM{all:Int}{n:Nat}{b:Bk}(h:aR b):aR (s9 all n b).2:=aHJ 0 7 _ _ (aR.take h)
theorem D2{all:Int}{n:Nat}{b:Bk}(h:aR b):(oQ all n b).1.length=n:=by unfold oQ;rw [wR,L9 h]
theorem aCI{all:Int}{n:Nat}{b:Bk}(h:aR b):(s9 all n b).1.length=n:=by unfold s9;rw [GB,L9 h];simp
theorem rZ{α:Type}{f:Bk->List α×Bk}(hf: ∀b,aR b->aR (f b).2){b:Bk}(h:aR b): ∀n,aR (fO f n b).2
 |0=>h
 |n+1=>hf _ (rZ hf h n)
theorem A8{α:Type}{f:Bk->List α×Bk}{m:Nat}(hf: ∀b,aR b->aR (f b).2)(hl: ∀b,aR b->(f b).1.length=m){b:Bk}(h:aR b): ∀n,(fO f n b).1.length=n*m
 |0=>by rw [ce];rfl
 |n+1=>by show ((fO f n b).1++(f (fO f n b).2).1).length=_;rw [au,A8 hf hl h n,hl _ (rZ hf h n),bp,cj]
theorem vI{α:Type}{w:ByteArray}{one:Bk->α×Bk}(h1: ∀b,aR b->aR (one b).2): ∀(n:Nat) (s:List α×Bk),aR s.2->aR (dW w one n s).2
 |0,_,h=>h
 |n+1,s,h=>by
  unfold dW
  cases iE s.2 w
  ·exact h
  ·exact vI h1 n _ (h1 _ h)
theorem J0{α:Type}{w:ByteArray}{one:Bk->α×Bk}: ∀(n:Nat) (s:List α×Bk),(dW w one n s).1.length<=s.1.length+n
 |0,_=>av _
 |n+1,s=>by
  unfold dW
  cases iE s.2 w
  ·exact Nat.le_add_right _ _
  ·have:=J0 (w:=w) (one:=one) n (s.1++[(one s.2).1],(one s.2).2)
   simp only [au,gi] at this
   show (dW w one n (s.1++[(one s.2).1],(one s.2).2)).1.length<=_
   omega
theorem SP{all:Int}{b:Bk}(h:aR b):aR (jZ all b).2:=
 vI (fun _ h=>QO h) _ _ (rZ (fun _ h=>KM h) (rZ (fun _ h=>KJ h) (FA (WZ (V4 (V7 h)))) _) _)
theorem UQ{σ:Type}(f:σ->List Int->σ)(s:σ){p:List (List Int)}{i:Nat}(h:i<p.length):(p.take (i+1)).foldl f s=f ((p.take i).foldl f s) (p.getD i []):=by
 rw [List.take_add_one,be h]
 show (p.take i++[p[i]]).foldl f s=_
 rw [List.foldl_append,bc,be h];rfl
theorem FP{b:Bk}{l:List Int}{lo hi:Int}:(mX b l lo hi=0/\ ¬(kR b l lo hi).err=0)\/(lo<=mX b l lo hi/\mX b l lo hi<=hi):=by
 unfold mX kR nB A0
 cases hb:b.err==0 with
 |false=>exact .inl ⟨rfl,by simpa using hb⟩
 |true=>
  cases hw:kL l==0 with
  |false=>exact .inl ⟨rfl,show¬(24:Int)=0 by decide⟩
  |true=>
   simp only [ar,ch]
   cases hr:decide (g9 l<lo)||decide (g9 l>hi) with
   |true=>exact .inl ⟨rfl,show¬(40:Int)=0 by decide⟩
   |false=>
    simp only [dh,aw] at hr
    exact .inr ⟨by show lo<=g9 l;omega,by show g9 l<=hi;omega⟩
theorem aBI{b:Bk}{l:List Int}{lo hi:Int}(h: ¬b.err=0):mX b l lo hi=0:=by
 unfold mX
 rw [show (b.err==0)=false from by simpa using h];rfl
theorem aCc(all:Int)(b:Bk):(0<=(zN all b).1.1/\(zN all b).1.1<=64)/\(0<=(zN all b).1.2/\(zN all b).1.2<=64)/\((zN all b).1.2≠0->1<=(zN all b).1.1):=by
 unfold zN
 simp only
 generalize lnB all b (ba lT) 2=b1
 generalize rl ((lnV b (ba lT) 2).getD 0 [])=l
 generalize rl ((lnV b (ba lT) 2).getD 1 [])=l2
 have h2:(mX (kR b1 l 1 64) l2 1 64=0)\/(1<=mX (kR b1 l 1 64) l2 1 64/\mX (kR b1 l 1 64) l2 1 64<=64):=by
  rcases FP (b:=kR b1 l 1 64) (l:=l2) (lo:=1) (hi:=64) with h|h
  ·exact .inl h.1
  ·exact .inr h
 rcases FP (b:=b1) (l:=l) (lo:=1) (hi:=64) with ⟨h1,he⟩|h1
 ·have:=aBI (l:=l2) (lo:=1) (hi:=64) he
  exact ⟨by omega,by omega,fun h=>absurd this h⟩
 ·exact ⟨by omega,by omega,fun _=>h1.1⟩
theorem GK{α:Type}{e st id m n:Nat}{f:α->List SV}{L p:List α}{g h:Nat->List SV}(hp:p≠[])(hm:m=L.length)(hn:n=p.length)(hg: ∀j (h:j<L.length),g j=f L[j])(hh: ∀j (x:j<p.length),h j=f p[j]):
  bU e st id f (L++p) (.own id 0 st (m+n)) (some (.row e st (m+n) (qM m g h))):=
 .inr ⟨qM m g h,by simp [hp],by rw [hm,hn];simp,by rw [hm,hn];simp,fun j hj=>by
  unfold qM
  by_cases c:j<m
  ·rw [show Nat.blt j m=true from Nat.ble_eq_true_of_le c]
   rw [List.getElem_append_left (by omega)]
   exact hg j (by omega)
  ·rw [show Nat.blt j m=false from cf.2 fun x=>c (cd x)]
   rw [au] at hj
   rw [List.getElem_append_right (by omega)]
   show h (j - m)=_
   subst hm
   exact hh (j - L.length) (by omega)⟩
theorem xP {α:Type} {env:Env} {W:Nat->St->Option St} {fn:Func} {path:List Nat} {blk:Nat} {KK:Ex->St->Prop} {e st id:Nat} {f:α->List SV} (F:Nat->List α) (S:SV->Option SB->Nat->St) (n:Nat) {o0:SV} {r0:Option SB} (h0:bU e st id f (F 0) o0 r0)
  (hr: ∀i o b,i<n->bU e st id f (F i) o b-> ∀X:St->Prop,(∀o' b',bU e st id f (F (i+1)) o' b'->X (S o' b' (i+1)))->aF env W fn path blk (gM X KK) (S o b i))
  (he: ∀o b,bU e st id f (F n) o b-> ∀X:St->Prop,aF env W fn path blk (gM X KK) (S o b n)):
  iter (aF env W fn path blk) KK (n+1) (S o0 r0 0):=
 iH (fun a:SV×Option SB×Nat=>S a.1 a.2.1 a.2.2) (fun a=>n - a.2.2) (fun a=>a.2.2<=n/\bU e st id f (F a.2.2) a.1 a.2.1) (fun ⟨o,b,i⟩ ⟨h1,h2⟩ X hX=>by
  simp only at h1 h2 hX|-
  by_cases h:i<n
  ·exact hr i o b h h2 X fun o' b' ht=>hX (o',b',i+1) ⟨h,ht⟩ (by show n - (i+1)<n - i;omega)
  ·obtain rfl:i=n:=by omega
   exact he o b h2 X) (n+1) (o0,r0,0) ⟨cn _,h0⟩ (by show n - 0<n+1;omega)
end Go.Se
namespace Go.Proofs.YtghnfjfkjhbgdaaGreatDoor
open Go.Se
set_option maxRecDepth 100000
def dTk :List SV->List (Option SB)->KC->Prop
 | [.ptr 0 0,.str w,.int .i64 lo,.int .i64 hi],[some (.cells 130 cs)],K=> ∃(b:Bk) (all:Int),(cs=bkC all b/\aR b/\(0<=all/\all<=1048577))/\ ∀b':Bk,isB b' (i7 all b w lo hi)->
   Br (iT b w lo hi) (K .nils [some (.cells 130 (bkC all b'))] [0]) (∀p:List (List Int),isW p (kE b)->K (.ro p.length 1 (aG p)) [some (.cells 130 (bkC all b'))] [0])
 |_,_,_=>False
theorem aGq(xs:List SV)(σ:List (Option SB)):Sat Tryz.prog 81 xs σ (dTk xs σ):=by
 intro K hK
 unfold dTk at hK
 split at hK
 case h_2=>exact hK.elim
 obtain ⟨b,all,h,hK⟩:=hK
 refine aBS _ _ K ?_
 unfold cTk
 refine ⟨b,all,h, ?_⟩
 rcases Br.elim (hK _ rfl) with ⟨c,hK⟩|⟨c,hK⟩
 ·rw [c];exact hK
 ·rw [c];exact hK _ rfl
def dNm :List SV->List (Option SB)->KC->Prop
 | [.ptr 0 0,.str s],[some (.cells 130 cs)],K=> ∃(b:Bk) (all:Int),cs=bkC all b/\ ∀(v:Int) (b':Bk),U3 b s v b'->K (.int .i64 v) [some (.cells 130 (bkC all b'))] [0]
 |_,_,_=>False
theorem aHO(xs:List SV)(σ:List (Option SB)):Sat Tryz.prog 76 xs σ (dNm xs σ):=by
 intro K hK
 unfold dNm at hK
 split at hK
 case h_2=>exact hK.elim
 obtain ⟨b,all,h,hK⟩:=hK
 exact aCz _ _ K ⟨b,all,h,hK _ _ ⟨rfl,rfl⟩⟩
def dIt :List SV->List (Option SB)->KC->Prop
 | [.ptr 0 0,.str s,.int .i64 lo,.int .i64 hi],[some (.cells 130 cs)],K=> ∃(b:Bk) (all:Int),cs=bkC all b/\ ∀(v:Int) (b':Bk),RE b s lo hi v b'->K (.int .i64 v) [some (.cells 130 (bkC all b'))] [0]
 |_,_,_=>False
theorem aG5(xs:List SV)(σ:List (Option SB)):Sat Tryz.prog 41 xs σ (dIt xs σ):=by
 intro K hK
 unfold dIt at hK
 split at hK
 case h_2=>exact hK.elim
 obtain ⟨b,all,h,hK⟩:=hK
 exact aCi _ _ K ⟨b,all,h,hK _ _ ⟨rfl,rfl⟩⟩
def dOn :List SV->List (Option SB)->KC->Prop
 | [.ptr 0 0,.str s,.arr 1 0 2 2],[some (.cells 130 cs),some (.cells t [.str a,.str c])],K=> ∃(b:Bk) (all:Int),cs=bkC all b/\ ∀(v:Int) (b':Bk),aIW b s a c v b'->K (.int .i64 v) [some (.cells 130 (bkC all b')),some (.cells t [.str a,.str c])] [0]
 |_,_,_=>False
theorem aFO(xs:List SV)(σ:List (Option SB)):Sat Tryz.prog 83 xs σ (dOn xs σ):=by
 intro K hK
 unfold dOn at hK
 split at hK
 case h_2=>exact hK.elim
 obtain ⟨b,all,h,hK⟩:=hK
 exact aFp _ _ K ⟨b,all,h,hK _ _ ⟨rfl,rfl⟩⟩
def dOd :List SV->List (Option SB)->KC->Prop
 | [.ptr 0 0],[some (.cells 130 cs)],K=> ∃(b:Bk) (all:Int),cs=bkC all b/\ ∀b':Bk,isB b' (yO b)->K (.tup []) [some (.cells 130 (bkC all b'))] [0]
 |_,_,_=>False
theorem aGM(xs:List SV)(σ:List (Option SB)):Sat Tryz.prog 82 xs σ (dOd xs σ):=by
 intro K hK
 unfold dOd at hK
 split at hK
 case h_2=>exact hK.elim
 obtain ⟨b,all,h,hK⟩:=hK
 exact aCN _ _ K ⟨b,all,h,hK _ rfl⟩
noncomputable def o1 :bT Tryz.prog:=((((((((y6).add 31 (iU aFC) (cE fun xs σ v σ' d h=>by
  unfold aFC at h;split at h
  ·simp only [an,bn] at h
   obtain ⟨h1,rfl,rfl,rfl⟩:=h
   first|exact bF h1|exact bF _ h1|exact bF _ _ h1|exact bF _ _ _ h1|exact bF _ _ _ _ h1|exact bF _ _ _ _ _ h1|exact bF _ _ _ _ _ _ h1|exact bF _ _ _ _ _ _ _ h1|exact bF _ _ _ _ _ _ _ _ h1|exact bF _ _ _ _ _ _ _ _ _ h1|exact bF _ _ _ _ _ _ _ _ _ _ h1|exact bF _ _ _ _ _ _ _ _ _ _ _ h1|exact bF _ _ _ _ _ _ _ _ _ _ _ _ h1|exact bF (aa h1)|exact bF _ (aa h1)|exact bF _ _ (aa h1)|exact bF _ _ _ (aa h1)|exact bF _ _ _ _ (aa h1)|exact bF _ _ _ _ _ (aa h1)|exact bF _ _ _ _ _ _ (aa h1)|exact bF _ _ _ _ _ _ _ (aa h1)|exact bF _ _ _ _ _ _ _ _ (aa h1)|exact bF _ _ _ _ _ _ _ _ _ (aa h1)|exact bF _ _ _ _ _ _ _ _ _ _ (aa h1)|exact bF _ _ _ _ _ _ _ _ _ _ _ (aa h1)|exact bF _ _ _ _ _ _ _ _ _ _ _ _ (aa h1)
  ·cases h)).add 81 dTk aGq).add 80 cNx aBK).add 76 dNm aHO).add 41 dIt aG5).add 83 dOn aFO).add 82 dOd aGM).add 42 cEn aBZ
theorem aIb(s:ByteArray)(n:Nat)(b:Bk)(all:Int)(K:KC):run o1 3 39 [.agg [.ptr 0 0],.str s,.int .i64 n] [some (.cells 130 (bkC all b))] K=
 (∃(e400:Bk),∃(e399:Int),((bkC all b)=bkC e399 e400/\aR e400/\0<=e399/\e399<=1048577)/\(∀(b'397:Bk),∀(_:isB b'397 (i7 e399 e400 s (↑n:Int) (↑n:Int))),Br (iT e400 s (↑n:Int) (↑n:Int)) (Br (decide (0<=(↑n:Int))&&(decide ((↑n:Int)<=(↑n:Int))&&(decide ((↑n:Int)*16<=1099511627776)&&decide ((↑n:Int)<9223372036854775808)))) (K (SV.own 1 0 1 (↑n:Int).toNat) [some (SB.cells 130 (bkC e399 b'397)),some (SB.row 9 1 (↑n:Int).toNat fun (x:Nat)=>[SV.str (⟨#[]⟩:ByteArray)])] [0]) (False)) (∀(p394:List (List Int)),∀(_:isW p394 (kE e400)),Br (decide (0<p394.length)) (K (SV.ro p394.length 1 (aG p394)) [some (SB.cells 130 (bkC e399 b'397))] [0]) (False)))):=by kernel_rfl
end Go.Proofs.YtghnfjfkjhbgdaaGreatDoor
