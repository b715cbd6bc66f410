/- A thing is the same as itself. No statement is proved here. -/
import Derived.Test.YtldglgdejmljnaaGreatDoorMWp
namespace Go.Proofs.YtldglgdejmljnaaGreatDoor
open Go.RowKit
attribute [local simp] List.replicate List.range List.range.loop resA resOne retA AV.cuts AV.cut AObj.cut trim wkR wkT wkL wkN wkNR wkNL virtL virtO virt_get List.find? nextD_eq awpD_nil awpD_cons LCp LCl refL
set_option linter.unusedVariables false
set_option linter.unusedSimpArgs false

abbrev exsV (l : List Ex) : AV := .p (.sl 8 (l.map Ex.enc))
abbrev stsV (l : List St) : AV := .p (.sl 15 (l.map St.enc))
abbrev fisV (l : List Fi) : AV := .p (.sl 4 (l.map Fi.enc))

set_option maxRecDepth 100000 in
set_option maxHeartbeats 1000000 in
theorem sameTypeC : ∀ (t : Ty) (S : ASt), ADet Tryz.prog 60 [tyV t, tyV t] S (B true) S := by
  refine Ty.ind fun t ih S => ?_
  refine ADet.okA Tryz.call60 0 2 rfl rfl fun hok => ?_
  have hlen := okl hok
  refine ADet.intro mixed Tryz.call60 Tryz.func60 rfl ?_
  simp [Tryz.ntmps60]
  refine awp_loop (fun q : Nat => q ≤ t.args.length) (fun q => ([.any, .any, .ptr 0 0 0, .ptr 0 1 0, .any, I q] ++ List.replicate 40 .any)) (fun q => [.cells [U t.kind, Sg t.name, .p (.sl 3 (t.args.map Ty.enc))] 24, .cells [U t.kind, Sg t.name, .p (.sl 3 (t.args.map Ty.enc))] 24] :: S) (fun q => t.args.length - q) 0 (Nat.zero_le _) ?_ ?_ ?_
  · simp
  · simp
  intro q hq
  by_cases hlt : q < t.args.length
  · simp [hlt]
    refine awp_draw [] (by kernel_rfl) (by kernel_rfl) ?_
    simp [hlt, tyEnc]
    refine ⟨_, _, ih _ (List.getElem_mem hlt) _, ?_⟩
    simp [hlt]
    exact ⟨q + 1, hlt, by omega, wrap_succ hlt⟩
  · simp [hlt]

set_option maxRecDepth 100000 in
set_option maxHeartbeats 1000000 in
theorem sameNamesC (l : List ByteArray) (S : ASt) : ADet Tryz.prog 90 [.p (strs l), .p (strs l)] S (B true) S := by
  unfold strs
  refine ADet.okP Tryz.call90 0 rfl fun hok => ?_
  have hlen := okl hok
  refine ADet.intro mixed Tryz.call90 Tryz.func90 rfl ?_
  simp [Tryz.ntmps90]
  refine awp_loop (fun q : Nat => q ≤ l.length) (fun q => ([.p (.sl 1 (l.map fun s => [pS s])), .p (.sl 1 (l.map fun s => [pS s])), .any, .any, .any, I q] ++ List.replicate 20 .any)) (fun q => [] :: S) (fun q => l.length - q) 0 (Nat.zero_le _) ?_ ?_ ?_
  · simp
  · simp
  intro q hq
  by_cases hlt : q < l.length
  · simp [hlt]
    refine awp_draw [] (by kernel_rfl) (by kernel_rfl) ?_
    simp [hlt]
    exact ⟨q + 1, hlt, by omega, wrap_succ hlt⟩
  · simp [hlt]

set_option maxRecDepth 100000 in
set_option maxHeartbeats 1000000 in
theorem samePlaceC (x : Pl) (S : ASt) : ADet Tryz.prog 91 [plV x, plV x] S (B true) S := by
  refine ADet.intro mixed Tryz.call91 Tryz.func91 rfl ?_
  simp [Tryz.ntmps91]
  refine ⟨_, _, sameNamesC _ _, ?_⟩
  simp

def SmeE (l : List Ex) : Prop := ∀ S, ADet Tryz.prog 92 [exsV l, exsV l, B true] S (B true) S
set_option maxRecDepth 100000 in
set_option maxHeartbeats 1000000 in
theorem sameExprC (e : Ex) (h : SmeE e.args) (S : ASt) : ADet Tryz.prog 62 [exV e, exV e, B true] S (B true) S := by
  refine ADet.intro mixed Tryz.call62 Tryz.func62 rfl ?_
  simp [Tryz.ntmps62]
  refine ⟨_, _, samePlaceC _ _, ?_⟩
  simp
  refine ⟨_, _, h _, ?_⟩
  simp
set_option maxRecDepth 100000 in
set_option maxHeartbeats 1000000 in
theorem sameExprsC (l : List Ex) (ih : ∀ x ∈ l, SmeE x.args) : SmeE l := by
  intro S
  refine ADet.okP Tryz.call92 0 rfl fun hok => ?_
  have hlen := okl hok
  refine ADet.intro mixed Tryz.call92 Tryz.func92 rfl ?_
  simp [Tryz.ntmps92]
  refine awp_loop (fun q : Nat => q ≤ l.length) (fun q => ([exsV l, exsV l, B true, .any, .any, .any, .any, I q] ++ List.replicate 22 .any)) (fun q => [] :: S) (fun q => l.length - q) 0 (Nat.zero_le _) ?_ ?_ ?_
  · simp
  · simp
  intro q hq
  by_cases hlt : q < l.length
  · simp [hlt]
    refine awp_draw [] (by kernel_rfl) (by kernel_rfl) ?_
    simp [hlt, exEnc]
    refine ⟨_, _, sameExprC _ (ih _ (List.getElem_mem hlt)) _, ?_⟩
    simp [hlt]
    exact ⟨q + 1, hlt, by omega, wrap_succ hlt⟩
  · simp [hlt]
theorem smeE1 : ∀ (e : Ex), SmeE e.args := Ex.ind fun e ih => sameExprsC _ ih
theorem smeE (l : List Ex) : SmeE l := sameExprsC l fun x _ => smeE1 x

set_option maxRecDepth 100000 in
set_option maxHeartbeats 1000000 in
theorem sameFieldsC (l : List Fi) (S : ASt) : ADet Tryz.prog 59 [fisV l, fisV l] S (B true) S := by
  refine ADet.okP Tryz.call59 0 rfl fun hok => ?_
  have hlen := okl hok
  refine ADet.intro mixed Tryz.call59 Tryz.func59 rfl ?_
  simp [Tryz.ntmps59]
  refine awp_loop (fun q : Nat => q ≤ l.length) (fun q => ([fisV l, fisV l, .any, .any, .any, I q] ++ List.replicate 36 .any)) (fun q => [] :: S) (fun q => l.length - q) 0 (Nat.zero_le _) ?_ ?_ ?_
  · simp
  · simp
  intro q hq
  by_cases hlt : q < l.length
  · generalize hx : l[q] = x
    simp [hlt]
    refine awp_draw [] (by kernel_rfl) (by kernel_rfl) ?_
    simp [hlt, hx, Fi.enc]
    refine ⟨_, _, sameTypeC _ _, ?_⟩
    simp [hlt, hx]
    exact ⟨q + 1, hlt, by omega, wrap_succ hlt⟩
  · simp [hlt]

def SmeS (l : List St) : Prop := ∀ S, ADet Tryz.prog 61 [stsV l, stsV l, B true] S (B true) S
set_option maxRecDepth 100000 in
set_option maxHeartbeats 4000000 in
theorem sameStmtsC (l : List St) (ih : ∀ s ∈ l, SmeS s.body ∧ SmeS s.els ∧ ∀ a ∈ s.arms, SmeS a.body) : SmeS l := by
  intro S
  refine ADet.okP Tryz.call61 0 rfl fun hok => ?_
  have hlen := okl hok
  refine ADet.intro mixed Tryz.call61 Tryz.func61 rfl ?_
  simp [Tryz.ntmps61]
  refine awp_loop (fun q : Nat => q ≤ l.length) (fun q => ([stsV l, stsV l, B true, .any, .any, .any, .any, I q] ++ List.replicate 168 .any)) (fun q => [] :: S) (fun q => l.length - q) 0 (Nat.zero_le _) ?_ ?_ ?_
  · simp
  · simp
  intro q hq
  by_cases hlt : q < l.length
  · have hs := ih _ (List.getElem_mem hlt)
    have hsk := st_ok hok (List.getElem_mem hlt)
    generalize hx : l[q] = s at hs hsk ⊢
    have hla := okl hsk.2.2.2.2.2.2
    simp [hlt]
    refine awp_drawL [(8, 10, 8), (9, 11, 9)] [(7, 10)] (by kernel_rfl) (by kernel_rfl) (by kernel_rfl) (by simp) ?_
    simp [hlt, hx, stEnc]
    refine ⟨_, _, sameNamesC _ _, ?_⟩
    simp
    refine ⟨_, _, sameTypeC _ _, ?_⟩
    simp
    refine ⟨_, _, samePlaceC _ _, ?_⟩
    simp
    refine ⟨_, _, smeE _ _, ?_⟩
    simp
    refine ⟨_, _, hs.1 _, ?_⟩
    simp
    refine ⟨_, _, hs.2.1 _, ?_⟩
    simp
    refine awp_loop (fun k : Nat => k ≤ s.arms.length) (fun k => ([stsV l, stsV l, B true, .any, .any, .any, .any, I q, .ptr 0 0 0, .ptr 0 1 0, I k] ++ List.replicate 165 .any)) (fun k => [.cells (stU s) 109, .cells (stU s) 109] :: S) (fun k => s.arms.length - k) 0 (Nat.zero_le _) ?_ ?_ ?_
    · simp
    · simp
    intro k hk
    by_cases hkl : k < s.arms.length
    · have hac := hs.2.2 _ (List.getElem_mem hkl)
      generalize ha : s.arms[k] = a at hac ⊢
      simp [hkl]
      refine awp_draw [] (by kernel_rfl) (by kernel_rfl) ?_
      simp [hkl, ha, Ar.enc]
      refine ⟨_, _, hac _, ?_⟩
      simp
      exact ⟨k + 1, hkl, by omega, wrap_succ hkl⟩
    · simp [hkl]
      exact ⟨q + 1, hlt, by omega, wrap_succ hlt⟩
  · simp [hlt]
theorem smeS3 : ∀ (s : St), SmeS s.body ∧ SmeS s.els ∧ ∀ a ∈ s.arms, SmeS a.body := St.ind fun s ih1 ih2 ih3 => ⟨sameStmtsC _ ih1, sameStmtsC _ ih2, fun a ha => sameStmtsC _ (ih3 a ha)⟩
theorem smeS (l : List St) : SmeS l := sameStmtsC l fun s _ => smeS3 s

set_option maxRecDepth 100000 in
set_option maxHeartbeats 4000000 in
theorem sameC (p : List It) (S : ASt) : ADet Tryz.prog 22 [.agg [.p (prog p)], .agg [.p (prog p)], B true] S (B true) S := by
  refine ADet.okA Tryz.call22 0 0 rfl rfl fun hok => ?_
  have hlen := okl hok
  refine ADet.intro mixed Tryz.call22 Tryz.func22 rfl ?_
  simp [Tryz.ntmps22, prog]
  refine awp_loop (fun q : Nat => q ≤ p.length) (fun q => ([.any, .any, B true, .ptr 0 0 0, .ptr 0 1 0, .any, .any, I q] ++ List.replicate 82 .any)) (fun q => [.cells [.p (prog p)] 46, .cells [.p (prog p)] 46] :: S) (fun q => p.length - q) 0 (Nat.zero_le _) ?_ ?_ ?_
  · simp
  · simp [prog]
  intro q hq
  by_cases hlt : q < p.length
  · generalize hx : p[q] = x
    simp [hlt, prog]
    refine awp_drawL [(10, 12, 8), (11, 13, 9)] [(6, 12), (9, 12)] (by kernel_rfl) (by kernel_rfl) (by kernel_rfl) (by simp) ?_
    simp [hlt, hx, It.enc, prog]
    refine ⟨_, _, sameFieldsC _ _, ?_⟩
    simp
    refine ⟨_, _, sameTypeC _ _, ?_⟩
    simp
    refine ⟨_, _, smeS _ _, ?_⟩
    simp
    refine ⟨_, _, sameExprC _ (smeE1 _) _, ?_⟩
    simp
    exact ⟨q + 1, hlt, by omega, wrap_succ hlt⟩
  · simp [hlt, prog]
end Go.Proofs.YtldglgdejmljnaaGreatDoor
