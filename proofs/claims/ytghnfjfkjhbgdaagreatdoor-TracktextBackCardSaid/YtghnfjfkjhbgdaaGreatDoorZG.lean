/- For every track the law TracktextBack returns true: a track that may be comes back from its text. No condition; the listed variables are tied to the program's text. -/
import Derived.Test.YtghnfjfkjhbgdaaGreatDoorZF
import Derived.Test.YtghnfjfkjhbgdaaGreatDoorRows
import Derived.Test.YtghnfjfkjhbgdaaGreatDoorTie
import Derived.Test.YtghnfjfkjhbgdaaGreatDoorCards
import Derived.Handed
import Derived.JoinedOf
import Derived.ProofKit
import Derived.Lay
import Derived.LaidMore
import Derived.LaidLaws
import Derived.LaidHandle
import Derived.SevenTiedAt
namespace Go.Proofs.YtghnfjfkjhbgdaaGreatDoor
open Go.Se Go.ChangeShapes Go.WideShapes Go.ChangeAt Go.RowKit
set_option maxRecDepth 100000
def nJ(_:Val)(K:KC):Prop:=K (.bool true) [] []
theorem vY(V:Val):Sat Tryz.prog 5 (BN tab.tt 8 0 [34] V) [] (nJ V):=fun K hK=>⟨_,_,_,hK,by
 have e:BN tab.tt 8 0 [34] V=[.agg (aM (aGB (V.sub 0)))]:=by kernel_rfl
 rw [e];exact X2 _⟩
theorem own :ownKnob Tryz.prog.godebug=none:=by kernel_rfl
theorem aCp :laidOutB Tryz.prog=true:=by kernel_rfl
noncomputable def aEk(t:TypeId):Value:=(((Tryz.prog.info? t).bind (·.zero)).getD (.bool false))
def yI :List (String×DataW Unit):=Rows.tracktextBackRow.laid
theorem aB0 :(Tryz.prog.cutTypes.find? (·.1== "internal/reflectlite.rtype")).map (·.2)=some 194:=by kernel_rfl
theorem JH :((List.range 347).filter fun t=>Tryz.prog.rowNamed t [101,114,114,111,114])=[94]:=by kernel_rfl
theorem R5 :Tryz.prog.types.size=347:=by kernel_rfl
theorem aCM :Tryz.prog.globalNamed "errors.errorType" =some 0:=by kernel_rfl
theorem B4{W:World}(h:laidMetH Tryz.prog yI W):W.cell? ⟨0,0,none⟩=some (.iface 194 (.agg #[.pointer (some ⟨6,94,none⟩)])):=by
 have hm:(("errors.errorType",Rows.laid_errors_errorType):String×DataW Unit)∈yI.filter fun x=>x.2.handleName?.isSome:=List.mem_filter.2 ⟨List.mem_cons_of_mem _ (List.mem_cons_self ..),by kernel_rfl⟩
 obtain ⟨name,u,ty,e1,e2,e3,e4,e5⟩:=(laidMetH_iff.1 h).2 _ hm
 have en:name=[101,114,114,111,114]:=(Option.some.inj e1).symm
 subst en
 obtain rfl:=Option.some.inj (aB0.symm.trans e2)
 have hm:ty∈(List.range 347).filter fun t=>Tryz.prog.rowNamed t [101,114,114,111,114]:=List.mem_filter.2 ⟨List.mem_range.2 (by rw [<- R5];exact e3),e4⟩
 rw [JH] at hm
 obtain rfl:=List.mem_singleton.1 hm
 have hh:typeHandle Tryz.prog 94= .pointer (some ⟨6,94,none⟩):=by kernel_rfl
 rw [hh] at e5
 simpa using World.var?_cell aCM e5 0
theorem W1{W:World}(h:laidMetH Tryz.prog yI W): ∀g v,wU Tryz.prog=some (g,v)->W.cell? ⟨g,0,none⟩=some v:=by
 intro g v hg
 rw [LJ] at hg
 cases hg
 exact B4 h
noncomputable def XI :List (String×DataW Unit):=yI.filter fun x=>x.2.handleName?.isNone
noncomputable def XX(os:Os):World:=
 let w0:=World.holding Tryz.prog os ⟨#[],#[],[]⟩
 {w0 with heap:=w0.heap.modify 0 fun
   | .cells _ t frozen=> .cells #[.iface 194 (.agg #[.pointer (some ⟨6,94,none⟩)])] t frozen
   |o=>o}
noncomputable def xM(os:Os):World:=(XX os).layVars Tryz.prog XI
theorem MR(os:Os)(args:Array Value):laidMet Tryz.prog (yI.filter fun x=>x.2.handleName?.isNone) ((xM os).forCall (fun _ _=>0) ⟨#[],args,[]⟩).memory:=by
 have h:laidMet Tryz.prog XI (xM os):=laidMet_layVars (w0:=XX os) ["unicode/utf8.acceptRanges","unicode/utf8.first"] [] (by kernel_rfl) (by kernel_rfl) (by kernel_rfl) (by
  rw [show (XI.filter fun x=> !["unicode/utf8.acceptRanges","unicode/utf8.first"].contains x.1)=[] by kernel_rfl];exact LaidIn.none)
 exact h.of_heap (by simp [World.memory,World.forCall,Input.heap])
theorem sY(os:Os)(started:os.Started)(H:Type)(enc:TypeId×Value->H):
  ReturnsInHanded {} Tryz.checked os 5 .any (fun w args=>(Rows.tracktextBackSpec.pre enc Tryz.prog Tryz.f5 Rows.tracktextBackRow.domain false w args/\laidMetH Tryz.prog yI w)/\sizedMet enc Tryz.prog Tryz.f5 (OpenSpec.ofChange Rows.tracktextBackSpec) false w args)
   (Rows.tracktextBackSpec.post enc Tryz.prog Tryz.f5 false true false false):=by
 refine returnsInHanded_of_change_and (C:=Tryz.checked) (X:=fun w _=>laidMetH Tryz.prog yI w) (fun _ _ _ hh h=>h.of_heap hh) own started (by kernel_rfl) Tryz.func5
  (ChangeSpec.witness_shaped (enc:=enc) (C:=Tryz.checked) (os:=os) (X:=fun w _=>laidMetH Tryz.prog yI w) false (xM os) #[aEk 34] 12 (World.layVars_os _ _ _) (World.shaped_of_ZipB (by kernel_rfl) (by kernel_rfl)) (by kernel_rfl) (by kernel_rfl) (by kernel_rfl)
   (laidMetH_of_parts (MR os _) (by kernel_rfl))) ?_
 intro W base args ds gs before hval hW _ _ hL _
 exact Y1 (C:=Tryz.checked) aCp tab.htt Tryz.func5 (by kernel_rfl) (d:=8) (by kernel_rfl) (by kernel_rfl) (tb:=4) (by kernel_rfl) (by kernel_rfl) rfl
  (fun ds h=>by
   match ds,h with
   | [d1],_=>rfl)
  (Φ:=nJ)
  vY
  (fun _=>rfl) W base args ds gs before (W1 hL) hval hW
theorem t8 :Rows.TracktextBackSaid:=
 OpenClaim.holds_of_wide 5 Tryz.f5 rfl rfl rfl rfl rfl rfl rfl ⟨rfl,rfl,rfl,rfl,rfl⟩ rfl rfl rfl rfl rfl (by kernel_rfl) Tryz.func5 (by kernel_rfl)
  (of_decide_eq_true (by kernel_rfl)) (by unfold Func.isWrapper;first|(rw [if_pos (by decide+kernel)];kernel_rfl)|(rw [if_neg (by decide+kernel)];exact ⟨rfl,rfl⟩))
  (fun os started H enc _=>sY os started H enc)
theorem tracktextBack_card :Rows.TracktextBackCardSaid:=
 Claim7.holds_tied_plain_at .later [] [.data,.handle,.pinned] true _ true t8 (fun _ h=>by cases h) (by kernel_rfl) (fun _ h=>by cases h) tracktextBack_row_tie rfl ⟨rfl,rfl⟩ (by kernel_rfl) rfl
  (fun f fn hf hfn=>by
   obtain rfl:f=5:=Option.some.inj ((show Tryz.prog.funcNamed "chicane/chicanelaw37.TracktextBack" =some 5 by kernel_rfl).symm.trans hf)|>.symm
   obtain rfl:fn=Tryz.f5:=(Option.some.inj (Tryz.func5.symm.trans hfn)).symm
   exact ⟨by kernel_rfl,fun j t ht=>by
    have hp:Tryz.f5.params= #[34]:=by kernel_rfl
    rw [hp] at ht
    have hm:t∈[34]:=by simpa using Array.mem_of_getElem? ht
    have hall:([34].all fun u=> !Tryz.prog.wantsStandIn u)=true:=by kernel_rfl
    exact (show Tryz.prog.wantsStandIn t=false by simpa using List.all_eq_true.1 hall t hm)⟩)
  (by kernel_rfl)
end Go.Proofs.YtghnfjfkjhbgdaaGreatDoor
