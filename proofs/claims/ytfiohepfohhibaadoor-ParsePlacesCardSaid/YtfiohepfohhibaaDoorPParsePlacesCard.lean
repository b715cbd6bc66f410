/- weftwaylaw05.ParsePlaces: whatever the arguments are, the law returns true; no condition beyond the card's own. Its row, its tied card. -/
import Derived.Test.YtfiohepfohhibaaDoorCards
import Derived.Test.YtfiohepfohhibaaDoorTie
import Derived.Test.YtfiohepfohhibaaDoorPMOpen
import Derived.Test.YtfiohepfohhibaaDoorPNTw
import Derived.WalkKit
import Derived.ProofKit
import Derived.OpenShut
import Derived.Deep.DeepHandedRow
import Derived.Deep.DeepWitnessRowRef
import Derived.Lib.LaidTab
set_option linter.unusedVariables false
set_option linter.unusedSimpArgs false
set_option maxRecDepth 100000
set_option maxHeartbeats 32000000
namespace Go.Proofs.YtfiohepfohhibaaDoor
open Go.ChangeShapes Go.WideShapes Go.ChangeAt Go.RowKit
def parsePlacesArgs : Array Value:=#[.string ⟨#[]⟩]
theorem parsePlaces_laid (os : Os) : laidMet Tryd.prog Rows.parsePlacesRow.laid ((laidWorld os).forCall (fun _ _=>0) ⟨#[],parsePlacesArgs,[]⟩).memory :=
 laidMet_of_run' 10 (by kernel_rfl) (by kernel_rfl)
theorem parsePlaces_reads (os : Os) {H : Type} (enc : TypeId × Value → H) : ∃ ds places,DataW.whole enc Tryd.prog ((laidWorld os).forCall (fun _ _=>0) ⟨#[],parsePlacesArgs,[]⟩).memory Tryd.f3.params.toList Rows.parsePlacesSpec.vars false parsePlacesArgs.toList 8 = some (ds,[],places) :=
 ⟨[.lit (.string [])],[],by kernel_rfl⟩
theorem ParsePlaces.lifted (os : Os) (started : os.Started) (H : Type) (enc : TypeId × Value → H) (F : Stop.Interp) :
  ReturnsInHanded {} Tryd.checked os 3 .any ((OpenSpec.ofChange Rows.parsePlacesSpec).preRow enc Tryd.prog Tryd.f3 Rows.parsePlacesRow.domain false Rows.parsePlacesRow.laid) (((OpenSpec.ofChange Rows.parsePlacesSpec).at F).post enc Tryd.prog Tryd.f3 false true false false):=by
 obtain ⟨ds0,places,hx⟩:=parsePlaces_reads os enc
 refine returnsInHanded_of_row (C:=Tryd.checked) (s:=OpenSpec.ofChange Rows.parsePlacesSpec) own started (by kernel_rfl) Tryd.func3
  (witness_row_atRef (enc:=enc) (C:=Tryd.checked) false (laidWorld os) parsePlacesArgs rfl (by kernel_rfl) (by kernel_rfl) (by kernel_rfl)
   (OpenSpec.preRow_of_cond 8 hx (by kernel_rfl) (fun k hk=>by cases hk) (by kernel_rfl) (parsePlaces_laid os))) ?_
 intro W base args ds gs before hval0 hW _ _ _ hL _ _
 have hval : ∀ (j : Nat) t v,Tryd.f3.params[j]? = some t → args[j]? = some v → Value.okWide Tryd.prog W .any base t v:=hval0
 have hW':=hW
 obtain ⟨p,q,hA0,hV,rfl,hfz,hnd⟩:=hW
 have hA : DataW.TrodAll enc Tryd.prog W 0 (fun _=>true) true Tryd.f3.params.toList args.toList ds p:=hA0
 rw [Tryd.params3] at hA hval
 obtain ⟨v0,vs0,d0,dd0,p0,q0,hargs0,rfl,rfl,h0,r0⟩:=trodAll_cons hA
 obtain ⟨rfl,rfl,rfl⟩:=trodAll_nil r0
 obtain rfl : args = #[v0]:=by cases args; simp_all
 obtain ⟨rfl,rfl⟩:=trodVars_none hV
 have hf0 : ∀ b o,MemPlace.cell b o ∈ p0 → W.frozen? ⟨b,o,none⟩ = false:=fun b o hm=>hfz b o (by simp [hm])
 obtain ⟨x0,rfl,rfl,rfl,_⟩:=ChangeMaps.open_string Tryd.underlying9 (hval 0 9 v0 rfl rfl) h0
 have a0:=(.p (.v rfl) : RA (allOf W) [[]] (Sg x0) (.string x0))
 have hd:=parsePlacesC x0 [[]]
 refine (ADet.calls (Pr:=allOf W) hd (xs:=#[.string x0]) ⟨rfl,fun j c x hc hx=>?_⟩ (fun b o v h=>h) (tabs_met hL)).mono fun e' W' ⟨x,Pr',hr,_,⟨φ',hx⟩,hb⟩=>?_
 ·match j,hc,hx with
  | 0,hc,hx=>cases hc; cases hx; skip; exact a0
 ·subst hr
  cases hx with | p hx=>cases hx with | v _ =>
  exact ⟨_,rfl,law_post laidOut (fun t ht=>by rw [Tryd.params3] at ht; simp at ht; subst ht; exact (⟨by kernel_rfl,of_decide_eq_true (by kernel_rfl)⟩ : Tryd.prog.readableRec 9 = true ∧ 9 < Tryd.prog.types.size)) hW' rfl rfl rfl Tryd.underlying4 hb⟩
theorem ParsePlaces.said : Rows.ParsePlacesSaid :=
 OpenClaim.holds_of_cond 3 Tryd.f3 rfl rfl rfl rfl rfl rfl rfl ⟨rfl,rfl,rfl,rfl,rfl⟩ rfl rfl rfl rfl rfl (by kernel_rfl) Tryd.func3 (by kernel_rfl)
  (of_decide_eq_true (by kernel_rfl)) (by unfold Func.isWrapper; first | (rw [if_pos (by decide +kernel)]; kernel_rfl) | (rw [if_neg (by decide +kernel)]; exact ⟨rfl,rfl⟩))
  (fun os started H enc _ F=>by rw [OpenClaim.pre_eq_preRow]; exact ParsePlaces.lifted os started H enc F)
theorem ParsePlaces.plain (f : FuncId) (fn : Func) (hf : Tryd.pinned.checked.prog.funcNamed "weftway/weftwaylaw05.ParsePlaces" = some f) (hfn : Tryd.pinned.checked.prog.funcs[f]? = some fn) :
  false = Tryd.pinned.checked.prog.looks [] ∧ ∀ (j : Nat) t,fn.params[j]? = some t → Tryd.pinned.checked.prog.wantsStandIn t = false:=by
 obtain rfl : f = 3:=Option.some.inj ((show Tryd.prog.funcNamed "weftway/weftwaylaw05.ParsePlaces" = some 3 by kernel_rfl).symm.trans hf) |>.symm
 obtain rfl : fn = Tryd.f3:=(Option.some.inj (Tryd.func3.symm.trans hfn)).symm
 refine ⟨by kernel_rfl,fun j t ht=>?_⟩
 rw [Tryd.params3] at ht
 obtain rfl : t = 9:=by simpa using Array.mem_of_getElem? ht
 exact (show Tryd.prog.wantsStandIn 9 = false by kernel_rfl)
theorem ParsePlaces.proved : Rows.ParsePlacesCardSaid :=
 Claim7.holds_tied_plain_at .later [] _ _ _ _ ParsePlaces.said (fun _ h=>by cases h) (by kernel_rfl) (fun _ h=>by cases h) parsePlaces_row_tie rfl ⟨rfl,rfl⟩ (by kernel_rfl) rfl ParsePlaces.plain (by kernel_rfl)
end Go.Proofs.YtfiohepfohhibaaDoor
