/- weftwaylaw04.ShowProgram: whatever the program is, the law returns true; no condition beyond the card's own. Its row, its tied card. -/
import Derived.Test.YtldglgdejmljnaaGreatDoorCards
import Derived.Test.YtldglgdejmljnaaGreatDoorTie
import Derived.Test.YtldglgdejmljnaaGreatDoorOpenP
import Derived.Test.YtldglgdejmljnaaGreatDoorCLw4P
import Derived.WalkKit
import Derived.ProofKit
import Derived.OpenShut
import Derived.Deep.DeepHandedRow
import Derived.Deep.DeepWitnessRowRef
import Derived.Lib.LaidTab
namespace Go.Proofs.YtldglgdejmljnaaGreatDoor
open Go.ChangeShapes Go.WideShapes Go.ChangeAt Go.RowKit
set_option linter.unusedVariables false

theorem gAscii : Tryz.prog.globalNamed "strings.asciiSpace" = some 1 := by kernel_rfl
theorem gAsciiType : (Tryz.prog.globals[1]?).map (·.type) = some 186 := by kernel_rfl
theorem gPow : Tryz.prog.globalNamed "internal/strconv.uint64pow10" = some 0 := by kernel_rfl
theorem gPowType : (Tryz.prog.globals[0]?).map (·.type) = some 178 := by kernel_rfl
theorem cells256 : Tryz.prog.cellsOf 186 = 256 := by kernel_rfl
theorem cells20 : Tryz.prog.cellsOf 178 = 20 := by kernel_rfl
theorem cells64 : Tryz.prog.cellsOf 167 = 1 := by kernel_rfl
theorem ascii_data : (Rows.laid_strings_asciiSpace : DataW Unit) = Lib.tabData .u8 Lib.asciiSpaceTab := by kernel_rfl
theorem pow_data : (Rows.laid_internal_strconv_uint64pow10 : DataW Unit) = Lib.tabData .u64 Lib.pow10Tab := by kernel_rfl
theorem ascii_ne : Lib.asciiSpaceTab ≠ [] := by decide
theorem pow_ne : Lib.pow10Tab ≠ [] := by decide
theorem tabs_met {W : World} (h : laidMetH Tryz.prog Rows.showProgramRow.laid W) : TabsP (allOf W) [[]] W := by
  have h1 : laidMet Tryz.prog [("math/bits.deBruijn32tab", Rows.laid_math_bits_deBruijn32tab), ("math/bits.deBruijn64tab", Rows.laid_math_bits_deBruijn64tab), ("internal/strconv.uint64pow10", Rows.laid_internal_strconv_uint64pow10), ("unicode.White_Space", Rows.laid_unicode_White_Space), ("strings.asciiSpace", Rows.laid_strings_asciiSpace)] W := h
  have h2 := laid_tail (laid_tail h1)
  have h3 := laid_tail (laid_tail h2)
  rw [pow_data] at h2
  rw [ascii_data] at h3
  have a := Lib.tabIs_of_head gPow gPowType Tryz.underlying178 Tryz.underlying167 cells64 cells20 h2
  have b := Lib.tabIs_of_head (rest := []) gAscii gAsciiType Tryz.underlying186 Tryz.underlying5 cells_u8 cells256 h3
  intro g cs hm
  unfold tabList at hm
  simp only [List.mem_cons, List.not_mem_nil, or_false, Prod.mk.injEq] at hm
  rcases hm with ⟨rfl, rfl⟩ | ⟨rfl, rfl⟩
  · exact tab_one gAscii b ascii_ne
  · exact tab_one gPow a pow_ne

def witArgs : Array Value := #[.agg #[.slice none 0 0]]
/-- A world for the witness: the tables hold what their initialisers lay. -/
noncomputable def laidWorld (os : Os) : World :=
  let N := (World.settled Tryz.prog os).heap.size
  let w0 := World.holding Tryz.prog os ⟨#[.cells #[.int .u16 9, .int .u16 13, .int .u16 1, .int .u16 32, .int .u16 133, .int .u16 101, .int .u16 160, .int .u16 5760, .int .u16 5600, .int .u16 8192, .int .u16 8202, .int .u16 1, .int .u16 8232, .int .u16 8233, .int .u16 1, .int .u16 8239, .int .u16 8287, .int .u16 48, .int .u16 12288, .int .u16 12288, .int .u16 1] 202,
    .cells #[.slice (some ⟨N, 0, none⟩) 7 7, .slice none 0 0, .int .i64 2] 199], #[], []⟩
  let put (h : Array Obj) (g : Nat) (cs : Array Value) : Array Obj := h.modify g fun
    | .cells _ t frozen => .cells cs t frozen
    | o => o
  let h1 := put w0.heap 1 (Lib.asciiSpaceTab.map fun z => Value.int .u8 z).toArray
  let h2 := put h1 4 #[.pointer (some ⟨N + 1, 0, none⟩)]
  let h3 := put h2 0 (Lib.pow10Tab.map fun z => Value.int .u64 z).toArray
  let cellsOf (d : DataW Unit) : Array Value := match d with
    | .agg l => (l.map fun
      | .lit (.int k z) => Value.int k z
      | _ => undef).toArray
    | _ => #[]
  let h4 := put h3 2 (cellsOf Rows.laid_math_bits_deBruijn32tab)
  let h5 := put h4 3 (cellsOf Rows.laid_math_bits_deBruijn64tab)
  { w0 with heap := h5 }
theorem laid_met (os : Os) : laidMet Tryz.prog Rows.showProgramRow.laid ((laidWorld os).forCall (fun _ _ => 0) ⟨#[], witArgs, []⟩).memory :=
  laidMet_of_run' 10 (by kernel_rfl) (by kernel_rfl)
theorem spReads (os : Os) {H : Type} (enc : TypeId × Value → H) : ∃ ds places, DataW.whole enc Tryz.prog ((laidWorld os).forCall (fun _ _ => 0) ⟨#[], witArgs, []⟩).memory Tryz.f4.params.toList Rows.showProgramSpec.vars false witArgs.toList 8 = some (ds, [], places) :=
  ⟨[.agg [.nil]], [], by kernel_rfl⟩

set_option maxRecDepth 100000 in
theorem ShowProgram.lifted (os : Os) (started : os.Started) (H : Type) (enc : TypeId × Value → H) (F : Stop.Interp) :
    ReturnsInHanded {} Tryz.checked os 4 .any ((OpenSpec.ofChange Rows.showProgramSpec).preRow enc Tryz.prog Tryz.f4 Rows.showProgramRow.domain false Rows.showProgramRow.laid) (((OpenSpec.ofChange Rows.showProgramSpec).at F).post enc Tryz.prog Tryz.f4 false true false false) := by
  obtain ⟨ds0, places, hx⟩ := spReads os enc
  refine returnsInHanded_of_row (C := Tryz.checked) (s := OpenSpec.ofChange Rows.showProgramSpec) own started (by kernel_rfl) Tryz.func4
    (witness_row_atRef (enc := enc) (C := Tryz.checked) false (laidWorld os) witArgs rfl (by kernel_rfl) (by kernel_rfl) (by kernel_rfl)
      (OpenSpec.preRow_of_cond 8 hx (by kernel_rfl) (fun k hk => by cases hk) (by kernel_rfl) (laid_met os))) ?_
  intro W base args ds gs before hval0 hW _ _ _ hL _ _
  have hval : ∀ (j : Nat) t v, Tryz.f4.params[j]? = some t → args[j]? = some v → Value.okWide Tryz.prog W .any base t v := hval0
  have hW' := hW
  obtain ⟨p, q, hA0, hV, rfl, hfz, hnd⟩ := hW
  have hA : DataW.TrodAll enc Tryz.prog W 0 (fun _ => true) true Tryz.f4.params.toList args.toList ds p := hA0
  rw [Tryz.params4] at hA hval
  obtain ⟨v0, vs0, d0, ds0', p0, q0, hargs, rfl, rfl, h0, r0⟩ := trodAll_cons hA
  obtain ⟨rfl, rfl, rfl⟩ := trodAll_nil r0
  obtain rfl : args = #[v0] := by cases args; simp_all
  obtain ⟨rfl, rfl⟩ := trodVars_none hV
  have hf0 : ∀ b o, MemPlace.cell b o ∈ p0 → W.frozen? ⟨b, o, none⟩ = false := fun b o hm => hfz b o (by simpa using hm)
  obtain ⟨p, f, rfl, hp⟩ := open_param Tryz.underlying46 cells_Program opens_Program (hval 0 46 v0 rfl rfl) h0 hf0
  have ha : RA (allOf W) [[]] (av [prog p]) (.agg ((List.range 1).map f).toArray) := ra_agg (n := 1) rfl (rdp_cons (rp_prog hp) (rdp_nil _ _))
  have hd := showProgramLawC p (fun x hx => itRg_of hp x hx) (fun x hx => itNn_of hp x hx) [[]]
  refine (ADet.calls (Pr := allOf W) hd (xs := #[.agg ((List.range 1).map f).toArray]) ⟨rfl, fun j c x hc hx => ?_⟩ (fun b o v h => h) (tabs_met hL)).mono fun e' W' ⟨x, Pr', hr, _, ⟨φ', hx⟩, hb⟩ => ?_
  · match j, hc, hx with
    | 0, hc, hx => cases hc; cases hx; exact ha
  · subst hr
    cases hx with | p hx => cases hx with | v _ =>
    exact ⟨_, rfl, law_post laidOut (fun t ht => by rw [Tryz.params4] at ht; simp at ht; subst ht; exact readable_Program) hW' rfl rfl rfl Tryz.underlying4 hb⟩

theorem ShowProgram.said : Rows.ShowProgramSaid :=
  OpenClaim.holds_of_cond 4 Tryz.f4 rfl rfl rfl rfl rfl rfl rfl ⟨rfl, rfl, rfl, rfl, rfl⟩ rfl rfl rfl rfl rfl (by kernel_rfl) Tryz.func4 (by kernel_rfl)
    (of_decide_eq_true (by kernel_rfl)) (by unfold Func.isWrapper; first | (rw [if_pos (by decide +kernel)]; kernel_rfl) | (rw [if_neg (by decide +kernel)]; exact ⟨rfl, rfl⟩))
    (fun os started H enc _ F => by rw [OpenClaim.pre_eq_preRow]; exact ShowProgram.lifted os started H enc F)

theorem ShowProgram.plain (f : FuncId) (fn : Func) (hf : Tryz.pinned.checked.prog.funcNamed "weftway/weftwaylaw04.ShowProgram" = some f) (hfn : Tryz.pinned.checked.prog.funcs[f]? = some fn) :
    false = Tryz.pinned.checked.prog.looks [] ∧ ∀ (j : Nat) t, fn.params[j]? = some t → Tryz.pinned.checked.prog.wantsStandIn t = false := by
  obtain rfl : f = 4 := Option.some.inj ((show Tryz.prog.funcNamed "weftway/weftwaylaw04.ShowProgram" = some 4 by kernel_rfl).symm.trans hf) |>.symm
  obtain rfl : fn = Tryz.f4 := (Option.some.inj (Tryz.func4.symm.trans hfn)).symm
  refine ⟨by kernel_rfl, fun j t ht => ?_⟩
  rw [Tryz.params4] at ht
  obtain rfl : t = 46 := by simpa using Array.mem_of_getElem? ht
  exact (show Tryz.prog.wantsStandIn 46 = false by kernel_rfl)

theorem ShowProgram.proved : Rows.ShowProgramCardSaid :=
  Claim7.holds_tied_plain_at .later [] _ _ _ _ ShowProgram.said (fun _ h => by cases h) (by kernel_rfl) (fun _ h => by cases h) showProgram_row_tie rfl ⟨rfl, rfl⟩ (by kernel_rfl) rfl ShowProgram.plain (by kernel_rfl)
end Go.Proofs.YtldglgdejmljnaaGreatDoor
