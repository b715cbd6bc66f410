/- 4 texts of this proof, one behind the other: CLex CWhT CWhE CWhF. The statement is proved in the claim's last text. -/
import Derived.Test.YtnblhbpfgdjnkaaGreatDoorTWp
import Derived.Test.YtnblhbpfgdjnkaaGreatDoorTLx
namespace Go.Proofs.YtnblhbpfgdjnkaaGreatDoor
open Go.RowKit
set_option linter.unusedVariables false
set_option linter.unusedSimpArgs false

set_option maxHeartbeats 400000 in
theorem name_any (s : ByteArray) (hs : s.size ≤ maxLen) (w : World) (h : Tab w) :
    Calls Tryz.prog 116 #[.string s] w fun e w' => e = .returned (.bool (nameB s)) ∧ Below w.heap.size w w' := by
  have Hn := Lib.hid (named_any lowerB 131 #[] s hs Tryz.call131 (fun b w => lower_any b w) w h)
  clear h
  unfold nameB
  go_enter Tryz.func116, Tryz.ntmps116
  go_wp2_with (go_at_call 151; refine Hn.out.mono ?_; rintro e w1 ⟨rfl, hb⟩)
  go_ret
  exact ⟨rfl, hb⟩
set_option maxHeartbeats 400000 in
theorem refName_any (s : ByteArray) (hs : s.size ≤ maxLen) (w : World) :
    Calls Tryz.prog 63 #[.string s] w fun e w' => e = .returned (.bool (nameB s)) ∧ Below w.heap.size w w' := by
  have Hn := Lib.hid (refNamed_any lowerB 97 122 (fun b => rfl) s hs w)
  unfold nameB
  go_enter Tryz.func63, Tryz.ntmps63
  go_wp2_with (go_at_call 71; refine Hn.out.mono ?_; rintro e w1 ⟨rfl, hb⟩)
  go_ret
  exact ⟨rfl, hb⟩

theorem g_space : Tryz.prog.globalNamed "strings.asciiSpace" = some 1 := by kernel_rfl
theorem space_in : ((1 : Nat), Lib.asciiSpaceTab.map fun z => Value.int .u8 z) ∈ tabList := by simp [tabList]
theorem rl_str {Pr : Prot} {φ : Fi2} {s : ByteArray} {xs : Array Value} (h : RL Pr φ [Sg s] xs) : xs = #[.string s] := rl_vals (l := [.string s]) h
theorem nameC1 (s : ByteArray) (hs : s.size ≤ maxLen) (S : ASt) : ADet Tryz.prog 116 [Sg s] S (B (nameB s)) S :=
  ADet.of_calls rfl Tryz.call116 fun Pr φ xs w hargs hR => by
    obtain rfl := rl_str hargs
    exact name_any s hs w (tab_is hR g_space space_in)
theorem typeC1 (s : ByteArray) (hs : s.size ≤ maxLen) (S : ASt) : ADet Tryz.prog 105 [Sg s] S (B (typeB s)) S :=
  ADet.of_calls rfl Tryz.call105 fun Pr φ xs w hargs hR => by
    obtain rfl := rl_str hargs
    exact type_any s hs w (tab_is hR g_space space_in)
theorem rnameC (s : ByteArray) (hs : s.size ≤ maxLen) (S : ASt) : ADet Tryz.prog 63 [Sg s] S (B (nameB s)) S :=
  ADet.of_calls rfl Tryz.call63 fun Pr φ xs w hargs hR => by
    obtain rfl := rl_str hargs
    exact refName_any s hs w
theorem rtypeC (s : ByteArray) (hs : s.size ≤ maxLen) (S : ASt) : ADet Tryz.prog 39 [Sg s] S (B (typeB s)) S :=
  ADet.of_calls rfl Tryz.call39 fun Pr φ xs w hargs hR => by
    obtain rfl := rl_str hargs
    exact refType_any s hs w
end Go.Proofs.YtnblhbpfgdjnkaaGreatDoor

namespace Go.Proofs.YtnblhbpfgdjnkaaGreatDoor
open Go.RowKit
attribute [local simp] List.replicate List.range List.range.loop resA resOne retA virtL virtO virt_get markL markO markR_get rowA awpI_nil awpI_cons List.forall_mem_cons List.contains_cons List.contains_nil List.find? nextD_eq awpD_nil awpD_cons LCp LCl refL
set_option linter.unusedVariables false
set_option linter.unusedSimpArgs false

theorem sm_max {n : Nat} (h : n ≤ 20000) : n ≤ maxLen := by unfold maxLen; omega
theorem wrd (d : Int) (h : -1000 ≤ d ∧ d ≤ 1000) : IntKind.i64.wrap (d - 1) = d - 1 := IntWalk.i64_in _ (by omega)
/-! ### Types -/
def WTC (t : Ty) : Prop := ∀ (d : Int) (S : ASt), -1 ≤ d → d ≤ 1000 → ADet Tryz.prog 68 [tyV t, I d] S (B (t.whole d)) S
set_option maxRecDepth 100000 in
set_option maxHeartbeats 1000000 in
theorem wholeType1C (x : Ty) (hx : WTC x) (d : Int) (h0 : -1 ≤ d - 1) (h1 : d ≤ 1000) (L0 L : List AObj) (S : ASt) (j : Nat) (hj : L0[j]? = some (.cells [I d] 3)) : ADet Tryz.prog 107 [tyV x, .ptr 1 j 0] (L :: L0 :: S) (B (x.whole (d - 1))) (L :: L0 :: S) := by
  refine ADet.intro mixed Tryz.call107 Tryz.func107 rfl ?_
  simp [Tryz.ntmps107, hj, wrd d (by omega)]
  refine ⟨_, _, hx (d - 1) _ (by omega) (by omega), ?_⟩
  simp
set_option maxRecDepth 100000 in
set_option maxHeartbeats 4000000 in
theorem wholeTypeC : ∀ (t : Ty), TySm t → WTC t := by
  refine Ty.ind fun t ih hsm d S hd1 hd2 => ?_
  obtain ⟨_, hn, hsz, hsm⟩ := hsm
  have hal : ∀ (L0 : List AObj) (j : Nat), L0[j]? = some (.cells [I d] 3) → 0 < d → ADet Tryz.prog 106 [.p (.sl 3 (t.args.map Ty.enc)), I 1, .fn (.func 107) [] [.ptr 0 j 0]] (L0 :: S) (B (allUp (fun x => x.whole (d - 1)) t.args 1)) (L0 :: S) := fun L0 j hj hd =>
    all_Type _ t.args 1 (by omega) _ [] [.ptr 0 j 0] _ fun x hx L => by
      simp only [AV.ups, AV.up, List.nil_append]
      exact wholeType1C x (ih x hx (hsm x hx)) d (by omega) hd2 L0 L S j hj
  have hty := fun S => typeC1 t.name (sm_max hn) S
  have hnil : ∀ (p : Ty → Bool), allUp p [] 1 = true := fun p => by simp [allUp]
  have hone : ∀ (p : Ty → Bool), t.args.length = 1 → allUp p t.args 1 = t.args.all p := fun p h => allUp_all (by omega)
  rw [whole_eq]
  refine ADet.intro mixed Tryz.call68 Tryz.func68 rfl ?_
  by_cases hop1 : t.kind = 1
  · by_cases h0 : 0 < d
    · cases hnm : sEq t.name emS
      · simp [Tryz.ntmps68, hop1, hnm]
        refine awp_draw [] (by kernel_rfl) (by kernel_rfl) ?_
        simp [hop1, h0, hnm, plainKind]
      · by_cases hl : t.args = []
        · simp [Tryz.ntmps68, hop1, hnm]
          refine awp_draw [] (by kernel_rfl) (by kernel_rfl) ?_
          simp [hop1, h0, hnm, hl, plainKind]
          have hal' := hal
          simp only [hl, List.map_nil] at hal'
          refine ⟨_, _, hal' _ 1 rfl h0, ?_⟩
          simp [hop1, h0, hnm, hl, plainKind, hnil]
        · simp [Tryz.ntmps68, hop1, hnm]
          refine awp_draw [] (by kernel_rfl) (by kernel_rfl) ?_
          simp [hop1, h0, hnm, hl, plainKind]
    · simp [Tryz.ntmps68, hop1]
      refine awp_draw [] (by kernel_rfl) (by kernel_rfl) ?_
      simp [hop1, h0, plainKind]
  by_cases hop2 : t.kind = 2
  · by_cases h0 : 0 < d
    · cases hnm : sEq t.name emS
      · simp [Tryz.ntmps68, hop2, hnm]
        refine awp_draw [] (by kernel_rfl) (by kernel_rfl) ?_
        simp [hop2, h0, hnm, plainKind]
      · by_cases hl : t.args = []
        · simp [Tryz.ntmps68, hop2, hnm]
          refine awp_draw [] (by kernel_rfl) (by kernel_rfl) ?_
          simp [hop2, h0, hnm, hl, plainKind]
          have hal' := hal
          simp only [hl, List.map_nil] at hal'
          refine ⟨_, _, hal' _ 1 rfl h0, ?_⟩
          simp [hop2, h0, hnm, hl, plainKind, hnil]
        · simp [Tryz.ntmps68, hop2, hnm]
          refine awp_draw [] (by kernel_rfl) (by kernel_rfl) ?_
          simp [hop2, h0, hnm, hl, plainKind]
    · simp [Tryz.ntmps68, hop2]
      refine awp_draw [] (by kernel_rfl) (by kernel_rfl) ?_
      simp [hop2, h0, plainKind]
  by_cases hop3 : t.kind = 3
  · by_cases h0 : 0 < d
    · cases hnm : sEq t.name emS
      · simp [Tryz.ntmps68, hop3, hnm]
        refine awp_draw [] (by kernel_rfl) (by kernel_rfl) ?_
        simp [hop3, h0, hnm, plainKind]
      · by_cases hl : t.args = []
        · simp [Tryz.ntmps68, hop3, hnm]
          refine awp_draw [] (by kernel_rfl) (by kernel_rfl) ?_
          simp [hop3, h0, hnm, hl, plainKind]
          have hal' := hal
          simp only [hl, List.map_nil] at hal'
          refine ⟨_, _, hal' _ 1 rfl h0, ?_⟩
          simp [hop3, h0, hnm, hl, plainKind, hnil]
        · simp [Tryz.ntmps68, hop3, hnm]
          refine awp_draw [] (by kernel_rfl) (by kernel_rfl) ?_
          simp [hop3, h0, hnm, hl, plainKind]
    · simp [Tryz.ntmps68, hop3]
      refine awp_draw [] (by kernel_rfl) (by kernel_rfl) ?_
      simp [hop3, h0, plainKind]
  by_cases hop10 : t.kind = 10
  · by_cases h0 : 0 < d
    · cases hnm : sEq t.name emS
      · simp [Tryz.ntmps68, hop10, hnm]
        refine awp_draw [] (by kernel_rfl) (by kernel_rfl) ?_
        simp [hop10, h0, hnm, plainKind]
      · by_cases hl : t.args = []
        · simp [Tryz.ntmps68, hop10, hnm]
          refine awp_draw [] (by kernel_rfl) (by kernel_rfl) ?_
          simp [hop10, h0, hnm, hl, plainKind]
          have hal' := hal
          simp only [hl, List.map_nil] at hal'
          refine ⟨_, _, hal' _ 1 rfl h0, ?_⟩
          simp [hop10, h0, hnm, hl, plainKind, hnil]
        · simp [Tryz.ntmps68, hop10, hnm]
          refine awp_draw [] (by kernel_rfl) (by kernel_rfl) ?_
          simp [hop10, h0, hnm, hl, plainKind]
    · simp [Tryz.ntmps68, hop10]
      refine awp_draw [] (by kernel_rfl) (by kernel_rfl) ?_
      simp [hop10, h0, plainKind]
  skip
  by_cases hop4 : t.kind = 4
  · simp [Tryz.ntmps68, hop4]
    refine awp_draw [] (by kernel_rfl) (by kernel_rfl) ?_
    simp [hop4, plainKind]
    refine ⟨_, _, hty _, ?_⟩
    by_cases h0 : 0 < d
    · cases hnm : typeB t.name
      · simp [hop4, h0, hnm]
      · by_cases hl : t.args = []
        · simp [hop4, h0, hnm, hl]
          have hal' := hal
          simp only [hl, List.map_nil] at hal'
          refine ⟨_, _, hal' _ 1 rfl h0, ?_⟩
          simp [hop4, h0, hnm, hl, hnil]
        · simp [hop4, h0, hnm, hl]
    · simp [hop4, h0]
  have hpl : plainKind t.kind = false := by simp [plainKind]; omega
  by_cases h0 : 0 < d
  · by_cases h1 : 1 ≤ t.kind
    · by_cases h2 : t.kind ≤ 14
      · cases hnm : sEq t.name emS
        · skip
          simp [Tryz.ntmps68, hop1, hop2, hop3, hop4, hop10, hpl]
          refine awp_draw [] (by kernel_rfl) (by kernel_rfl) ?_
          simp [hop1, hop2, hop3, hop4, hop10, hpl, h0, h1, h2, hnm]
        · by_cases hl : t.args.length = 1
          · skip
            simp [Tryz.ntmps68, hop1, hop2, hop3, hop4, hop10, hpl]
            refine awp_draw [] (by kernel_rfl) (by kernel_rfl) ?_
            simp [hop1, hop2, hop3, hop4, hop10, hpl, h0, h1, h2, hnm, hl]
            refine ⟨_, _, hal _ 1 rfl h0, ?_⟩
            simp [hop1, hop2, hop3, hop4, hop10, hpl, h0, h1, h2, hnm, hl, hone]
          · skip
            simp [Tryz.ntmps68, hop1, hop2, hop3, hop4, hop10, hpl]
            refine awp_draw [] (by kernel_rfl) (by kernel_rfl) ?_
            simp [hop1, hop2, hop3, hop4, hop10, hpl, h0, h1, h2, hnm, hl]
      · skip
        simp [Tryz.ntmps68, hop1, hop2, hop3, hop4, hop10, hpl]
        refine awp_draw [] (by kernel_rfl) (by kernel_rfl) ?_
        simp [hop1, hop2, hop3, hop4, hop10, hpl, h0, h1, h2]
    · skip
      simp [Tryz.ntmps68, hop1, hop2, hop3, hop4, hop10, hpl]
      refine awp_draw [] (by kernel_rfl) (by kernel_rfl) ?_
      simp [hop1, hop2, hop3, hop4, hop10, hpl, h0, h1]
  · skip
    simp [Tryz.ntmps68, hop1, hop2, hop3, hop4, hop10, hpl]
    refine awp_draw [] (by kernel_rfl) (by kernel_rfl) ?_
    simp [hop1, hop2, hop3, hop4, hop10, hpl, h0]
end Go.Proofs.YtnblhbpfgdjnkaaGreatDoor

namespace Go.Proofs.YtnblhbpfgdjnkaaGreatDoor
open Go.RowKit
attribute [local simp] List.replicate List.range List.range.loop resA resOne retA
set_option linter.unusedVariables false
set_option linter.unusedSimpArgs false

end Go.Proofs.YtnblhbpfgdjnkaaGreatDoor

namespace Go.Proofs.YtnblhbpfgdjnkaaGreatDoor
open Go.RowKit
attribute [local simp] List.replicate List.range List.range.loop resA resOne retA virtL virtO virt_get markL markO markR_get rowA awpI_nil awpI_cons List.forall_mem_cons List.contains_cons List.contains_nil List.find? nextD_eq awpD_nil awpD_cons LCp LCl refL
set_option linter.unusedVariables false
set_option linter.unusedSimpArgs false



def WEC (e : Ex) : Prop := ∀ (d : Int) (S : ASt), -1 ≤ d → d ≤ 1000 → ADet Tryz.prog 118 [exV e, I d] S (B (e.whole d)) S
end Go.Proofs.YtnblhbpfgdjnkaaGreatDoor
