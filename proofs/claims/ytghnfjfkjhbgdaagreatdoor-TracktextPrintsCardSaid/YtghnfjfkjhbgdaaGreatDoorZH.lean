/- For every track the law TracktextPrints returns true: the text is the document's answer, or what is wrong is. No condition; the listed variables are tied to the program's text. -/
import Derived.Test.YtghnfjfkjhbgdaaGreatDoorZG
import Derived.Test.YtghnfjfkjhbgdaaGreatDoorRows
import Derived.Test.YtghnfjfkjhbgdaaGreatDoorTie
import Derived.Test.YtghnfjfkjhbgdaaGreatDoorCards
import Derived.Handed
import Derived.JoinedOf
import Derived.ProofKit
import Derived.Lay
import Derived.LaidMore
import Derived.LaidLaws
import Derived.LaidHandle
import Derived.SevenTiedAt
namespace Go.Proofs.YtghnfjfkjhbgdaaGreatDoor
open Go.Se Go.ChangeShapes Go.WideShapes Go.ChangeAt Go.RowKit
set_option maxRecDepth 100000
def pC(_:Val)(K:KC):Prop:=K (.bool true) [] []
theorem xD(V:Val):Sat Tryz.prog 3 (EN tab.tt 8 0 [34] V) [] (pC V):=fun K hK=>⟨_,_,_,hK,by
 have e:EN tab.tt 8 0 [34] V=[.agg (aI (aMK (V.sub 0)))]:=by kernel_rfl
 rw [e];exact T8 _⟩
theorem own :ownKnob Tryz.prog.godebug=none:=by kernel_rfl
theorem aHI :laidOutB Tryz.prog=true:=by kernel_rfl
noncomputable def aI0(t:TypeId):Value:=(((Tryz.prog.info? t).bind (·.zero)).getD (.bool false))
def B3 :List (String×DataW Unit):=Rows.tracktextPrintsRow.laid
theorem aHx :(Tryz.prog.cutTypes.find? (·.1== "internal/reflectlite.rtype")).map (·.2)=some 194:=by kernel_rfl
theorem N3 :((List.range 347).filter fun t=>Tryz.prog.rowNamed t [101,114,114,111,114])=[94]:=by kernel_rfl
theorem aAE :Tryz.prog.types.size=347:=by kernel_rfl
theorem aGP :Tryz.prog.globalNamed "errors.errorType" =some 0:=by kernel_rfl
theorem F8{W:World}(h:laidMetH Tryz.prog B3 W):W.cell? ⟨0,0,none⟩=some (.iface 194 (.agg #[.pointer (some ⟨6,94,none⟩)])):=by
 have hm:(("errors.errorType",Rows.laid_errors_errorType):String×DataW Unit)∈B3.filter fun x=>x.2.handleName?.isSome:=List.mem_filter.2 ⟨List.mem_cons_of_mem _ (List.mem_cons_self ..),by kernel_rfl⟩
 obtain ⟨name,u,ty,e1,e2,e3,e4,e5⟩:=(laidMetH_iff.1 h).2 _ hm
 have en:name=[101,114,114,111,114]:=(Option.some.inj e1).symm
 subst en
 obtain rfl:=Option.some.inj (aHx.symm.trans e2)
 have hm:ty∈(List.range 347).filter fun t=>Tryz.prog.rowNamed t [101,114,114,111,114]:=List.mem_filter.2 ⟨List.mem_range.2 (by rw [<- aAE];exact e3),e4⟩
 rw [N3] at hm
 obtain rfl:=List.mem_singleton.1 hm
 have hh:typeHandle Tryz.prog 94= .pointer (some ⟨6,94,none⟩):=by kernel_rfl
 rw [hh] at e5
 simpa using World.var?_cell aGP e5 0
theorem aCH{W:World}(h:laidMetH Tryz.prog B3 W): ∀g v,yU Tryz.prog=some (g,v)->W.cell? ⟨g,0,none⟩=some v:=by
 intro g v hg
 rw [NS] at hg
 cases hg
 exact F8 h
noncomputable def aDC :List (String×DataW Unit):=B3.filter fun x=>x.2.handleName?.isNone
noncomputable def aFy(os:Os):World:=
 let w0:=World.holding Tryz.prog os ⟨#[],#[],[]⟩
 {w0 with heap:=w0.heap.modify 0 fun
   | .cells _ t frozen=> .cells #[.iface 194 (.agg #[.pointer (some ⟨6,94,none⟩)])] t frozen
   |o=>o}
noncomputable def BE(os:Os):World:=(aFy os).layVars Tryz.prog aDC
theorem T5(os:Os)(args:Array Value):laidMet Tryz.prog (B3.filter fun x=>x.2.handleName?.isNone) ((BE os).forCall (fun _ _=>0) ⟨#[],args,[]⟩).memory:=by
 have h:laidMet Tryz.prog aDC (BE os):=laidMet_layVars (w0:=aFy os) ["unicode/utf8.acceptRanges","unicode/utf8.first"] [] (by kernel_rfl) (by kernel_rfl) (by kernel_rfl) (by
  rw [show (aDC.filter fun x=> !["unicode/utf8.acceptRanges","unicode/utf8.first"].contains x.1)=[] by kernel_rfl];exact LaidIn.none)
 exact h.of_heap (by simp [World.memory,World.forCall,Input.heap])
theorem tJ(os:Os)(started:os.Started)(H:Type)(enc:TypeId×Value->H):
  ReturnsInHanded {} Tryz.checked os 3 .any (fun w args=>(Rows.tracktextPrintsSpec.pre enc Tryz.prog Tryz.f3 Rows.tracktextPrintsRow.domain false w args/\laidMetH Tryz.prog B3 w)/\sizedMet enc Tryz.prog Tryz.f3 (OpenSpec.ofChange Rows.tracktextPrintsSpec) false w args)
   (Rows.tracktextPrintsSpec.post enc Tryz.prog Tryz.f3 false true false false):=by
 refine returnsInHanded_of_change_and (C:=Tryz.checked) (X:=fun w _=>laidMetH Tryz.prog B3 w) (fun _ _ _ hh h=>h.of_heap hh) own started (by kernel_rfl) Tryz.func3
  (ChangeSpec.witness_shaped (enc:=enc) (C:=Tryz.checked) (os:=os) (X:=fun w _=>laidMetH Tryz.prog B3 w) false (BE os) #[aI0 34] 12 (World.layVars_os _ _ _) (World.shaped_of_ZipB (by kernel_rfl) (by kernel_rfl)) (by kernel_rfl) (by kernel_rfl) (by kernel_rfl)
   (laidMetH_of_parts (T5 os _) (by kernel_rfl))) ?_
 intro W base args ds gs before hval hW _ _ hL _
 exact aBB (C:=Tryz.checked) aHI tab.htt Tryz.func3 (by kernel_rfl) (d:=8) (by kernel_rfl) (by kernel_rfl) (tb:=4) (by kernel_rfl) (by kernel_rfl) rfl
  (fun ds h=>by
   match ds,h with
   | [d1],_=>rfl)
  (Φ:=pC)
  xD
  (fun _=>rfl) W base args ds gs before (aCH hL) hval hW
theorem uP :Rows.TracktextPrintsSaid:=
 OpenClaim.holds_of_wide 3 Tryz.f3 rfl rfl rfl rfl rfl rfl rfl ⟨rfl,rfl,rfl,rfl,rfl⟩ rfl rfl rfl rfl rfl (by kernel_rfl) Tryz.func3 (by kernel_rfl)
  (of_decide_eq_true (by kernel_rfl)) (by unfold Func.isWrapper;first|(rw [if_pos (by decide+kernel)];kernel_rfl)|(rw [if_neg (by decide+kernel)];exact ⟨rfl,rfl⟩))
  (fun os started H enc _=>tJ os started H enc)
theorem tracktextPrints_card :Rows.TracktextPrintsCardSaid:=
 Claim7.holds_tied_plain_at .later [] [.data,.handle,.pinned] true _ true uP (fun _ h=>by cases h) (by kernel_rfl) (fun _ h=>by cases h) tracktextPrints_row_tie rfl ⟨rfl,rfl⟩ (by kernel_rfl) rfl
  (fun f fn hf hfn=>by
   obtain rfl:f=3:=Option.some.inj ((show Tryz.prog.funcNamed "chicane/chicanelaw37.TracktextPrints" =some 3 by kernel_rfl).symm.trans hf)|>.symm
   obtain rfl:fn=Tryz.f3:=(Option.some.inj (Tryz.func3.symm.trans hfn)).symm
   exact ⟨by kernel_rfl,fun j t ht=>by
    have hp:Tryz.f3.params= #[34]:=by kernel_rfl
    rw [hp] at ht
    have hm:t∈[34]:=by simpa using Array.mem_of_getElem? ht
    have hall:([34].all fun u=> !Tryz.prog.wantsStandIn u)=true:=by kernel_rfl
    exact (show Tryz.prog.wantsStandIn t=false by simpa using List.all_eq_true.1 hall t hm)⟩)
  (by kernel_rfl)
end Go.Proofs.YtghnfjfkjhbgdaaGreatDoor
