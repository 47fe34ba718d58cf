/- For every text the law TracktextMay returns true: what is parsed may be, and comes back from its own text. No condition; the listed variables are tied to the program's text. -/
import Derived.Test.YtghnfjfkjhbgdaaGreatDoorZF
import Derived.Test.YtghnfjfkjhbgdaaGreatDoorRows
import Derived.Test.YtghnfjfkjhbgdaaGreatDoorTie
import Derived.Test.YtghnfjfkjhbgdaaGreatDoorCards
import Derived.Handed
import Derived.JoinedOf
import Derived.ProofKit
import Derived.Lay
import Derived.LaidMore
import Derived.LaidLaws
import Derived.LaidHandle
import Derived.SevenTiedAt
namespace Go.Proofs.YtghnfjfkjhbgdaaGreatDoor
open Go.Se Go.ChangeShapes Go.WideShapes Go.ChangeAt Go.RowKit
set_option maxRecDepth 100000
def pK(_:Val)(K:KC):Prop:=K (.bool true) [] []
theorem xB(V:Val):Sat Tryz.prog 6 (AX tab.tt 8 0 [9] V) [] (pK V):=fun K hK=>⟨_,_,_,hK,by
 have e:AX tab.tt 8 0 [9] V=[.str ((V.sub 0).str [])]:=by kernel_rfl
 rw [e];exact aBt _⟩
theorem own :ownKnob Tryz.prog.godebug=none:=by kernel_rfl
theorem aBQ :laidOutB Tryz.prog=true:=by kernel_rfl
def yY :List (String×DataW Unit):=Rows.tracktextMayRow.laid
theorem aCO :(Tryz.prog.cutTypes.find? (·.1== "internal/reflectlite.rtype")).map (·.2)=some 194:=by kernel_rfl
theorem KN :((List.range 347).filter fun t=>Tryz.prog.rowNamed t [101,114,114,111,114])=[94]:=by kernel_rfl
theorem VN :Tryz.prog.types.size=347:=by kernel_rfl
theorem aBX :Tryz.prog.globalNamed "errors.errorType" =some 0:=by kernel_rfl
theorem DS{W:World}(h:laidMetH Tryz.prog yY W):W.cell? ⟨0,0,none⟩=some (.iface 194 (.agg #[.pointer (some ⟨6,94,none⟩)])):=by
 have hm:(("errors.errorType",Rows.laid_errors_errorType):String×DataW Unit)∈yY.filter fun x=>x.2.handleName?.isSome:=List.mem_filter.2 ⟨List.mem_cons_of_mem _ (List.mem_cons_self ..),by kernel_rfl⟩
 obtain ⟨name,u,ty,e1,e2,e3,e4,e5⟩:=(laidMetH_iff.1 h).2 _ hm
 have en:name=[101,114,114,111,114]:=(Option.some.inj e1).symm
 subst en
 obtain rfl:=Option.some.inj (aCO.symm.trans e2)
 have hm:ty∈(List.range 347).filter fun t=>Tryz.prog.rowNamed t [101,114,114,111,114]:=List.mem_filter.2 ⟨List.mem_range.2 (by rw [<- VN];exact e3),e4⟩
 rw [KN] at hm
 obtain rfl:=List.mem_singleton.1 hm
 have hh:typeHandle Tryz.prog 94= .pointer (some ⟨6,94,none⟩):=by kernel_rfl
 rw [hh] at e5
 simpa using World.var?_cell aBX e5 0
theorem YD{W:World}(h:laidMetH Tryz.prog yY W): ∀g v,vU Tryz.prog=some (g,v)->W.cell? ⟨g,0,none⟩=some v:=by
 intro g v hg
 rw [K6] at hg
 cases hg
 exact DS h
noncomputable def ZA :List (String×DataW Unit):=yY.filter fun x=>x.2.handleName?.isNone
noncomputable def Y5(os:Os):World:=
 let w0:=World.holding Tryz.prog os ⟨#[],#[],[]⟩
 {w0 with heap:=w0.heap.modify 0 fun
   | .cells _ t frozen=> .cells #[.iface 194 (.agg #[.pointer (some ⟨6,94,none⟩)])] t frozen
   |o=>o}
noncomputable def xZ(os:Os):World:=(Y5 os).layVars Tryz.prog ZA
theorem OQ(os:Os)(args:Array Value):laidMet Tryz.prog (yY.filter fun x=>x.2.handleName?.isNone) ((xZ os).forCall (fun _ _=>0) ⟨#[],args,[]⟩).memory:=by
 have h:laidMet Tryz.prog ZA (xZ os):=laidMet_layVars (w0:=Y5 os) ["unicode/utf8.acceptRanges","unicode/utf8.first"] [] (by kernel_rfl) (by kernel_rfl) (by kernel_rfl) (by
  rw [show (ZA.filter fun x=> !["unicode/utf8.acceptRanges","unicode/utf8.first"].contains x.1)=[] by kernel_rfl];exact LaidIn.none)
 exact h.of_heap (by simp [World.memory,World.forCall,Input.heap])
theorem uB(os:Os)(started:os.Started)(H:Type)(enc:TypeId×Value->H):
  ReturnsInHanded {} Tryz.checked os 6 .any (fun w args=>(Rows.tracktextMaySpec.pre enc Tryz.prog Tryz.f6 Rows.tracktextMayRow.domain false w args/\laidMetH Tryz.prog yY w)/\sizedMet enc Tryz.prog Tryz.f6 (OpenSpec.ofChange Rows.tracktextMaySpec) false w args)
   (Rows.tracktextMaySpec.post enc Tryz.prog Tryz.f6 false true false false):=by
 refine returnsInHanded_of_change_and (C:=Tryz.checked) (X:=fun w _=>laidMetH Tryz.prog yY w) (fun _ _ _ hh h=>h.of_heap hh) own started (by kernel_rfl) Tryz.func6
  (ChangeSpec.witness_shaped (enc:=enc) (C:=Tryz.checked) (os:=os) (X:=fun w _=>laidMetH Tryz.prog yY w) false (xZ os) #[.string ⟨#[]⟩] 12 (World.layVars_os _ _ _) (World.shaped_of_ZipB (by kernel_rfl) (by kernel_rfl)) (by kernel_rfl) (by kernel_rfl) (by kernel_rfl)
   (laidMetH_of_parts (OQ os _) (by kernel_rfl))) ?_
 intro W base args ds gs before hval hW _ _ hL _
 exact WO (C:=Tryz.checked) aBQ tab.htt Tryz.func6 (by kernel_rfl) (d:=8) (by kernel_rfl) (by kernel_rfl) (tb:=4) (by kernel_rfl) (by kernel_rfl) rfl
  (fun ds h=>by
   match ds,h with
   | [d1],_=>rfl)
  (Φ:=pK)
  xB
  (fun _=>rfl) W base args ds gs before (YD hL) hval hW
theorem vB :Rows.TracktextMaySaid:=
 OpenClaim.holds_of_wide 6 Tryz.f6 rfl rfl rfl rfl rfl rfl rfl ⟨rfl,rfl,rfl,rfl,rfl⟩ rfl rfl rfl rfl rfl (by kernel_rfl) Tryz.func6 (by kernel_rfl)
  (of_decide_eq_true (by kernel_rfl)) (by unfold Func.isWrapper;first|(rw [if_pos (by decide+kernel)];kernel_rfl)|(rw [if_neg (by decide+kernel)];exact ⟨rfl,rfl⟩))
  (fun os started H enc _=>uB os started H enc)
theorem tracktextMay_card :Rows.TracktextMayCardSaid:=
 Claim7.holds_tied_plain_at .later [] [.data,.handle,.pinned] true _ true vB (fun _ h=>by cases h) (by kernel_rfl) (fun _ h=>by cases h) tracktextMay_row_tie rfl ⟨rfl,rfl⟩ (by kernel_rfl) rfl
  (fun f fn hf hfn=>by
   obtain rfl:f=6:=Option.some.inj ((show Tryz.prog.funcNamed "chicane/chicanelaw37.TracktextMay" =some 6 by kernel_rfl).symm.trans hf)|>.symm
   obtain rfl:fn=Tryz.f6:=(Option.some.inj (Tryz.func6.symm.trans hfn)).symm
   exact ⟨by kernel_rfl,fun j t ht=>by
    have hp:Tryz.f6.params= #[9]:=by kernel_rfl
    rw [hp] at ht
    have hm:t∈[9]:=by simpa using Array.mem_of_getElem? ht
    have hall:([9].all fun u=> !Tryz.prog.wantsStandIn u)=true:=by kernel_rfl
    exact (show Tryz.prog.wantsStandIn t=false by simpa using List.all_eq_true.1 hall t hm)⟩)
  (by kernel_rfl)
end Go.Proofs.YtghnfjfkjhbgdaaGreatDoor
