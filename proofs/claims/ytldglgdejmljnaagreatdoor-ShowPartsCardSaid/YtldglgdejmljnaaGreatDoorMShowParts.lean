/- weftwaylaw04.ShowParts: whatever the type and the expression are, the law returns true; no condition beyond the card's own. Its row, its tied card. -/
import Derived.Test.YtldglgdejmljnaaGreatDoorCards
import Derived.Test.YtldglgdejmljnaaGreatDoorTie
import Derived.Test.YtldglgdejmljnaaGreatDoorMOpen
import Derived.Test.YtldglgdejmljnaaGreatDoorMLaw
import Derived.WalkKit
import Derived.ProofKit
import Derived.OpenShut
import Derived.Deep.DeepHandedRow
import Derived.Deep.DeepWitnessRowRef
import Derived.Lib.LaidTab
namespace Go.Proofs.YtldglgdejmljnaaGreatDoor
open Go.ChangeShapes Go.WideShapes Go.ChangeAt Go.RowKit
set_option linter.unusedVariables false

theorem gAscii : Tryz.prog.globalNamed "strings.asciiSpace" = some 1 := by kernel_rfl
theorem gAsciiType : (Tryz.prog.globals[1]?).map (·.type) = some 186 := by kernel_rfl
theorem gPow : Tryz.prog.globalNamed "internal/strconv.uint64pow10" = some 0 := by kernel_rfl
theorem gPowType : (Tryz.prog.globals[0]?).map (·.type) = some 178 := by kernel_rfl
theorem cells256 : Tryz.prog.cellsOf 186 = 256 := by kernel_rfl
theorem cells20 : Tryz.prog.cellsOf 178 = 20 := by kernel_rfl
theorem cells64 : Tryz.prog.cellsOf 167 = 1 := by kernel_rfl
theorem ascii_data : (Rows.laid_strings_asciiSpace : DataW Unit) = Lib.tabData .u8 Lib.asciiSpaceTab := by kernel_rfl
theorem pow_data : (Rows.laid_internal_strconv_uint64pow10 : DataW Unit) = Lib.tabData .u64 Lib.pow10Tab := by kernel_rfl
theorem ascii_ne : Lib.asciiSpaceTab ≠ [] := by decide
theorem pow_ne : Lib.pow10Tab ≠ [] := by decide
theorem tabs_met {W : World} (h : laidMetH Tryz.prog Rows.showPartsRow.laid W) : TabsP (allOf W) [[]] W := by
  have h1 : laidMet Tryz.prog [("math/bits.deBruijn32tab", Rows.laid_math_bits_deBruijn32tab), ("math/bits.deBruijn64tab", Rows.laid_math_bits_deBruijn64tab), ("internal/strconv.uint64pow10", Rows.laid_internal_strconv_uint64pow10), ("unicode.White_Space", Rows.laid_unicode_White_Space), ("strings.asciiSpace", Rows.laid_strings_asciiSpace)] W := h
  have h2 := laid_tail (laid_tail h1)
  have h3 := laid_tail (laid_tail h2)
  rw [pow_data] at h2
  rw [ascii_data] at h3
  have a := Lib.tabIs_of_head gPow gPowType Tryz.underlying178 Tryz.underlying167 cells64 cells20 h2
  have b := Lib.tabIs_of_head (rest := []) gAscii gAsciiType Tryz.underlying186 Tryz.underlying5 cells_u8 cells256 h3
  intro g cs hm
  unfold tabList at hm
  simp only [List.mem_cons, List.not_mem_nil, or_false, Prod.mk.injEq] at hm
  rcases hm with ⟨rfl, rfl⟩ | ⟨rfl, rfl⟩
  · exact tab_one gAscii b ascii_ne
  · exact tab_one gPow a pow_ne

def witArgs : Array Value := #[.agg #[.int .u8 0, .string ⟨#[]⟩, .slice none 0 0], .agg #[.int .u8 0, .int .i64 0, .string ⟨#[]⟩, .string ⟨#[]⟩, .string ⟨#[]⟩, .slice none 0 0, .slice none 0 0, .int .i64 0]]
/-- A world for the witness: the tables hold what their initialisers lay. -/
noncomputable def laidWorld (os : Os) : World :=
  let N := (World.settled Tryz.prog os).heap.size
  let w0 := World.holding Tryz.prog os ⟨#[.cells #[.int .u16 9, .int .u16 13, .int .u16 1, .int .u16 32, .int .u16 133, .int .u16 101, .int .u16 160, .int .u16 5760, .int .u16 5600, .int .u16 8192, .int .u16 8202, .int .u16 1, .int .u16 8232, .int .u16 8233, .int .u16 1, .int .u16 8239, .int .u16 8287, .int .u16 48, .int .u16 12288, .int .u16 12288, .int .u16 1] 202,
    .cells #[.slice (some ⟨N, 0, none⟩) 7 7, .slice none 0 0, .int .i64 2] 199], #[], []⟩
  let put (h : Array Obj) (g : Nat) (cs : Array Value) : Array Obj := h.modify g fun
    | .cells _ t frozen => .cells cs t frozen
    | o => o
  let h1 := put w0.heap 1 (Lib.asciiSpaceTab.map fun z => Value.int .u8 z).toArray
  let h2 := put h1 4 #[.pointer (some ⟨N + 1, 0, none⟩)]
  let h3 := put h2 0 (Lib.pow10Tab.map fun z => Value.int .u64 z).toArray
  let cellsOf (d : DataW Unit) : Array Value := match d with
    | .agg l => (l.map fun
      | .lit (.int k z) => Value.int k z
      | _ => undef).toArray
    | _ => #[]
  let h4 := put h3 2 (cellsOf Rows.laid_math_bits_deBruijn32tab)
  let h5 := put h4 3 (cellsOf Rows.laid_math_bits_deBruijn64tab)
  { w0 with heap := h5 }
theorem laid_met (os : Os) : laidMet Tryz.prog Rows.showPartsRow.laid ((laidWorld os).forCall (fun _ _ => 0) ⟨#[], witArgs, []⟩).memory :=
  laidMet_of_run' 10 (by kernel_rfl) (by kernel_rfl)
theorem spReads (os : Os) {H : Type} (enc : TypeId × Value → H) : ∃ ds places, DataW.whole enc Tryz.prog ((laidWorld os).forCall (fun _ _ => 0) ⟨#[], witArgs, []⟩).memory Tryz.f3.params.toList Rows.showPartsSpec.vars false witArgs.toList 8 = some (ds, [], places) :=
  ⟨[.agg [.lit (.int .u8 0), .lit (.string []), .nil], .agg [.lit (.int .u8 0), .lit (.int .i64 0), .lit (.string []), .lit (.string []), .agg [.lit (.string []), .nil], .nil, .lit (.int .i64 0)]], [], by kernel_rfl⟩

set_option maxRecDepth 100000 in
theorem ShowParts.lifted (os : Os) (started : os.Started) (H : Type) (enc : TypeId × Value → H) (F : Stop.Interp) :
    ReturnsInHanded {} Tryz.checked os 3 .any ((OpenSpec.ofChange Rows.showPartsSpec).preRow enc Tryz.prog Tryz.f3 Rows.showPartsRow.domain false Rows.showPartsRow.laid) (((OpenSpec.ofChange Rows.showPartsSpec).at F).post enc Tryz.prog Tryz.f3 false true false false) := by
  obtain ⟨ds0, places, hx⟩ := spReads os enc
  refine returnsInHanded_of_row (C := Tryz.checked) (s := OpenSpec.ofChange Rows.showPartsSpec) own started (by kernel_rfl) Tryz.func3
    (witness_row_atRef (enc := enc) (C := Tryz.checked) false (laidWorld os) witArgs rfl (by kernel_rfl) (by kernel_rfl) (by kernel_rfl)
      (OpenSpec.preRow_of_cond 8 hx (by kernel_rfl) (fun k hk => by cases hk) (by kernel_rfl) (laid_met os))) ?_
  intro W base args ds gs before hval0 hW _ _ _ hL _ _
  have hval : ∀ (j : Nat) t v, Tryz.f3.params[j]? = some t → args[j]? = some v → Value.okWide Tryz.prog W .any base t v := hval0
  have hW' := hW
  obtain ⟨p, q, hA0, hV, rfl, hfz, hnd⟩ := hW
  have hA : DataW.TrodAll enc Tryz.prog W 0 (fun _ => true) true Tryz.f3.params.toList args.toList ds p := hA0
  rw [Tryz.params3] at hA hval
  obtain ⟨v0, vs0, d0, ds0', p0, q0, hargs, rfl, rfl, h0, r0⟩ := trodAll_cons hA
  obtain ⟨v1, vs1, d1, ds1', p1, q1, hargs1, rfl, rfl, h1, r1⟩ := trodAll_cons r0
  obtain ⟨rfl, rfl, rfl⟩ := trodAll_nil r1
  subst hargs1
  obtain rfl : args = #[v0, v1] := by cases args; simp_all
  obtain ⟨rfl, rfl⟩ := trodVars_none hV
  have hf0 : ∀ b o, MemPlace.cell b o ∈ p0 → W.frozen? ⟨b, o, none⟩ = false := fun b o hm => hfz b o (by simp [hm])
  have hf1 : ∀ b o, MemPlace.cell b o ∈ p1 → W.frozen? ⟨b, o, none⟩ = false := fun b o hm => hfz b o (by simp [hm])
  obtain ⟨t, f, rfl, ht⟩ := open_param Tryz.underlying24 cells_Type opens_Type (hval 0 24 v0 rfl rfl) h0 hf0
  obtain ⟨e, g, rfl, he⟩ := open_param Tryz.underlying30 cells_Expr opens_Expr (hval 1 30 v1 rfl rfl) h1 hf1
  have ha := ra_agg (φ := [[]]) (n := 3) (by rw [tyEnc]; rfl) (rd_ty t f ht)
  have hb := ra_agg (φ := [[]]) (n := 8) (by rw [exEnc]; rfl) (rd_ex e g he)
  have hd := showPartsC t e (exRg_of e g he) (exNn_of e g he) [[]]
  refine (ADet.calls (Pr := allOf W) hd (xs := #[.agg ((List.range 3).map f).toArray, .agg ((List.range 8).map g).toArray]) ⟨rfl, fun j c x hc hx => ?_⟩ (fun b o v h => h) (tabs_met hL)).mono fun e' W' ⟨x, Pr', hr, _, ⟨φ', hx⟩, hb⟩ => ?_
  · match j, hc, hx with
    | 0, hc, hx => cases hc; cases hx; rw [tyEnc] at ha; exact ha
    | 1, hc, hx => cases hc; cases hx; rw [exEnc] at hb; exact hb
  · subst hr
    cases hx with | p hx => cases hx with | v _ =>
    exact ⟨_, rfl, law_post laidOut (fun t ht => by rw [Tryz.params3] at ht; simp at ht; rcases ht with rfl | rfl; exact readable_Type; exact readable_Expr) hW' rfl rfl rfl Tryz.underlying4 hb⟩

theorem ShowParts.said : Rows.ShowPartsSaid :=
  OpenClaim.holds_of_cond 3 Tryz.f3 rfl rfl rfl rfl rfl rfl rfl ⟨rfl, rfl, rfl, rfl, rfl⟩ rfl rfl rfl rfl rfl (by kernel_rfl) Tryz.func3 (by kernel_rfl)
    (of_decide_eq_true (by kernel_rfl)) (by unfold Func.isWrapper; first | (rw [if_pos (by decide +kernel)]; kernel_rfl) | (rw [if_neg (by decide +kernel)]; exact ⟨rfl, rfl⟩))
    (fun os started H enc _ F => by rw [OpenClaim.pre_eq_preRow]; exact ShowParts.lifted os started H enc F)

theorem ShowParts.plain (f : FuncId) (fn : Func) (hf : Tryz.pinned.checked.prog.funcNamed "weftway/weftwaylaw04.ShowParts" = some f) (hfn : Tryz.pinned.checked.prog.funcs[f]? = some fn) :
    false = Tryz.pinned.checked.prog.looks [] ∧ ∀ (j : Nat) t, fn.params[j]? = some t → Tryz.pinned.checked.prog.wantsStandIn t = false := by
  obtain rfl : f = 3 := Option.some.inj ((show Tryz.prog.funcNamed "weftway/weftwaylaw04.ShowParts" = some 3 by kernel_rfl).symm.trans hf) |>.symm
  obtain rfl : fn = Tryz.f3 := (Option.some.inj (Tryz.func3.symm.trans hfn)).symm
  refine ⟨by kernel_rfl, fun j t ht => ?_⟩
  rw [Tryz.params3] at ht
  have hm : t = 24 ∨ t = 30 := by simpa using Array.mem_of_getElem? ht
  rcases hm with rfl | rfl
  · exact (show Tryz.prog.wantsStandIn 24 = false by kernel_rfl)
  · exact (show Tryz.prog.wantsStandIn 30 = false by kernel_rfl)

theorem ShowParts.proved : Rows.ShowPartsCardSaid :=
  Claim7.holds_tied_plain_at .later [] _ _ _ _ ShowParts.said (fun _ h => by cases h) (by kernel_rfl) (fun _ h => by cases h) showParts_row_tie rfl ⟨rfl, rfl⟩ (by kernel_rfl) rfl ShowParts.plain (by kernel_rfl)
end Go.Proofs.YtldglgdejmljnaaGreatDoor
