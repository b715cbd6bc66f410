/- A thing in memory of its own is the same thing. No statement is proved here. -/
import Derived.Test.YtldglgdejmljnaaGreatDoorMRoom
namespace Go.Proofs.YtldglgdejmljnaaGreatDoor
open Go.RowKit
attribute [local simp] List.replicate List.range List.range.loop resA resOne retA AV.cuts AV.cut AObj.cut trim wkR wkT wkL wkN wkNR wkNL virtL virtO virt_get List.find? nextD_eq awpD_nil awpD_cons LCp LCl refL
set_option linter.unusedVariables false
set_option linter.unusedSimpArgs false

/-- one row more -/
theorem take_row {α β : Type} (f : α → β) (l : List α) {q : Nat} (h : q < l.length) : (l.map f).take q ++ [f l[q]] = (l.map f).take (q + 1) := by
  rw [List.take_succ_eq_append_getElem (by simpa using h)]; simp
set_option maxRecDepth 100000 in
set_option maxHeartbeats 1000000 in
theorem copyTypeC : ∀ (t : Ty), TySm t → ∀ (S : ASt), ADet Tryz.prog 51 [.agg [U t.kind, Sg t.name, .p (.sl 3 (t.args.map Ty.enc))]] S (.agg [U t.kind, Sg t.name, .p (.sl 3 (t.args.map Ty.enc))]) S := by
  refine Ty.ind fun t ih hsm S => ?_
  obtain ⟨_, _, hsz, hsm⟩ := hsm
  refine ADet.okA Tryz.call51 0 2 rfl rfl fun hok => ?_
  have hlen := okl hok
  refine ADet.intro mixed Tryz.call51 Tryz.func51 rfl ?_
  simp [Tryz.ntmps51]
  refine awp_loopG 24 3 (by decide) [.cells [U t.kind, Sg t.name, .p (.sl 3 (t.args.map Ty.enc))] 24, .cells [.any, .any, .any] 24, .cells [U t.kind, Sg t.name, .osl 3 [] 0 3] 24] (fun q : Nat => q ≤ t.args.length) (fun q => ([.any, .ptr 0 0 0, .ptr 0 1 0, .ptr 0 2 0, I q] ++ List.replicate 21 .any)) (fun q => [.cells [U t.kind, Sg t.name, .p (.sl 3 (t.args.map Ty.enc))] 24, .cells [.any, .any, .any] 24, .cells [U t.kind, Sg t.name, .osl 3 ((t.args.map Ty.enc).take q) 0 3] 24, .tok 24 3 q] :: S) (fun q => t.args.length - q) 0 (Nat.zero_le _) ?_ ?_ ?_ ?_
  · simp
  · simp
  · rfl
  intro q hq
  by_cases hlt : q < t.args.length
  · simp [hlt]
    refine awp_draw [(1, 7), (1, 8)] (by kernel_rfl) (by kernel_rfl) ?_
    simp [hlt, tyEnc]
    refine ⟨_, _, ih _ (List.getElem_mem hlt) (hsm _ (List.getElem_mem hlt)) _, ?_⟩
    have hle : q + 1 ≤ 4294967296 := by omega
    have hmin : min q t.args.length = q := by omega
    simp [hlt, hle, hmin]
    exact ⟨q + 1, hlt, by omega, wrap_succ hlt, by rw [← take_row Ty.enc _ hlt, tyEnc], rfl⟩
  · simp [hlt]
    exact List.take_of_length_le (by simp; omega)

set_option maxRecDepth 100000 in
set_option maxHeartbeats 1000000 in
theorem copyPlaceC (x : Pl) (hx : PlSm x) (S : ASt) : ADet Tryz.prog 78 [.agg [Sg x.name, .p (strs x.path)]] S (.agg [Sg x.name, .p (strs x.path)]) S := by
  refine ADet.intro mixed Tryz.call78 Tryz.func78 rfl ?_
  have h1 : x.path.length ≤ 4294967296 := by have := hx.2.1; omega
  simp [Tryz.ntmps78, strs, h1]

set_option maxRecDepth 100000 in
set_option maxHeartbeats 1000000 in
theorem copyExprC : ∀ (e : Ex), ExSm e → ∀ (S : ASt), ADet Tryz.prog 53 [.agg [U e.op, I e.int, Sg e.name, Sg e.second, Sg e.place.name, .p (strs e.place.path), .p (.sl 8 (e.args.map Ex.enc)), I e.pos], B true] S (.agg [U e.op, I e.int, Sg e.name, Sg e.second, Sg e.place.name, .p (strs e.place.path), .p (.sl 8 (e.args.map Ex.enc)), I e.pos]) S := by
  refine Ex.ind fun e ih hsm S => ?_
  obtain ⟨_, _, _, hpl, hsz, hsm⟩ := hsm
  refine ADet.okA Tryz.call53 0 6 rfl rfl fun hok => ?_
  have hlen := okl hok
  refine ADet.intro mixed Tryz.call53 Tryz.func53 rfl ?_
  simp [Tryz.ntmps53]
  refine ⟨_, _, copyPlaceC _ hpl _, ?_⟩
  simp
  refine awp_loopG 30 8 (by decide) [.cells [U e.op, I e.int, Sg e.name, Sg e.second, Sg e.place.name, .p (strs e.place.path), .p (.sl 8 (e.args.map Ex.enc)), I e.pos] 30, .cells [.any, .any, .any, .any, .any, .any, .any, .any] 30, .cells [U e.op, I e.int, Sg e.name, Sg e.second, Sg e.place.name, .p (strs e.place.path), .osl 8 [] 0 3, I e.pos] 30] (fun q : Nat => q ≤ e.args.length) (fun q => ([.any, B true, .ptr 0 0 0, .any, .ptr 0 1 0, .ptr 0 2 0, I q] ++ List.replicate 29 .any)) (fun q => [.cells [U e.op, I e.int, Sg e.name, Sg e.second, Sg e.place.name, .p (strs e.place.path), .p (.sl 8 (e.args.map Ex.enc)), I e.pos] 30, .cells [.any, .any, .any, .any, .any, .any, .any, .any] 30, .cells [U e.op, I e.int, Sg e.name, Sg e.second, Sg e.place.name, .p (strs e.place.path), .osl 8 ((e.args.map Ex.enc).take q) 0 3, I e.pos] 30, .tok 30 8 q] :: S) (fun q => e.args.length - q) 0 (Nat.zero_le _) ?_ ?_ ?_ ?_
  · simp
  · simp
  · rfl
  intro q hq
  by_cases hlt : q < e.args.length
  · simp [hlt]
    refine awp_draw [(1, 8), (1, 9)] (by kernel_rfl) (by kernel_rfl) ?_
    simp [hlt, exEnc]
    refine ⟨_, _, ih _ (List.getElem_mem hlt) (hsm _ (List.getElem_mem hlt)) _, ?_⟩
    have hle : q + 1 ≤ 4294967296 := by omega
    have hmin : min q e.args.length = q := by omega
    simp [hlt, hle, hmin]
    exact ⟨q + 1, hlt, by omega, wrap_succ hlt, by rw [← take_row Ex.enc _ hlt, exEnc], rfl⟩
  · simp [hlt]
    exact List.take_of_length_le (by simp; omega)

set_option maxRecDepth 100000 in
set_option maxHeartbeats 1000000 in
theorem copyFieldsC (l : List Fi) (hsm : FisSm l) (S : ASt) : ADet Tryz.prog 50 [.p (.sl 4 (l.map Fi.enc))] S (.p (.sl 4 (l.map Fi.enc))) S := by
  obtain ⟨hsz, hsm⟩ := hsm
  refine ADet.okP Tryz.call50 0 rfl fun hok => ?_
  have hlen := okl hok
  refine ADet.intro mixed Tryz.call50 Tryz.func50 rfl ?_
  simp [Tryz.ntmps50]
  refine awp_loopG 106 4 (by decide) [] (fun q : Nat => q ≤ l.length) (fun q => ([.p (.sl 4 (l.map Fi.enc)), .any, .any, .osl 4 ((l.map Fi.enc).take q) 0 0, I q] ++ List.replicate 22 .any)) (fun q => [.tok 106 4 q] :: S) (fun q => l.length - q) 0 (Nat.zero_le _) ?_ ?_ ?_ ?_
  · simp
  · simp
  · rfl
  intro q hq
  by_cases hlt : q < l.length
  · simp [hlt]
    refine awp_draw [(5, 11)] (by kernel_rfl) (by kernel_rfl) ?_
    simp [hlt, Fi.enc]
    refine ⟨_, _, copyTypeC _ (hsm _ (List.getElem_mem hlt)).2 _, ?_⟩
    have hle : q + 1 ≤ 4294967296 := by omega
    have hmin : min q l.length = q := by omega
    simp [hlt, hle, hmin, Fi.enc]
    exact ⟨q + 1, hlt, by omega, ⟨by rw [← take_row Fi.enc _ hlt, Fi.enc], wrap_succ hlt⟩, rfl⟩
  · simp [hlt]
    exact List.take_of_length_le (by simp; omega)
end Go.Proofs.YtldglgdejmljnaaGreatDoor
