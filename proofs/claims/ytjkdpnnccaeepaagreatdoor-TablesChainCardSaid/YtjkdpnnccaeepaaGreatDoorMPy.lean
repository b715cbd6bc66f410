/- The reader of expressions: signs of a strength. No statement is proved here. -/
import Derived.Test.YtjkdpnnccaeepaaGreatDoorMPf
namespace Go.Proofs.YtjkdpnnccaeepaaGreatDoor
open Go.RowKit
attribute [local simp] List.replicate List.range List.range.loop resA resOne retA AV.cuts AV.cut AObj.cut trim wkR wkT wkL wkN wkNR wkNL wkM wkMR wkML virtL virtO virt_get markL markO markR_get rowA awpI_nil awpI_cons List.forall_mem_cons List.contains_cons List.contains_nil List.find? nextD_eq awpD_nil awpD_cons LCp LCl refL
set_option linter.unusedVariables false
set_option linter.unusedSimpArgs false

set_option maxRecDepth 100000 in
set_option maxHeartbeats 4000000 in
theorem strong_2_1 {l : List Tok} {s s1 : RS} {e : Ex} (hs : s.at_ ≤ l.length) (hb : s.bad = false) (hno : isP l s (⟨#[110, 111, 116]⟩ : ByteArray) 0 = false) (ih : RdC 107 [I (3 : Nat)] l s s1 (exV e)) (hs1 : s1.at_ ≤ l.length) (hb1 : s1.bad = true) : RdC 107 [I (2 : Nat)] l s s1 (exV e) := RdC.intro fun S d i hR => by
  have ho := (hR.upd s hs).o
  have ho1 := (hR.upd s1 hs1).o
  have hm : mayP l s (⟨#[110, 111, 116]⟩ : ByteArray) = s := by unfold mayP; rw [hno]; rfl
  refine ADet.intro mixed Tryz.call107 Tryz.func107 rfl ?_
  simp [Tryz.ntmps107]
  refine ⟨_, _, (placeRW s).at hR hs _, ?_⟩
  simp [ho, hb]
  refine ⟨_, _, (mayW s (⟨#[110, 111, 116]⟩ : ByteArray)).at hR hs _, ?_⟩
  rw [hno, hm]
  simp
  refine ⟨_, _, ih.at hR hs _, ?_⟩
  simp
  refine awp_loop (fun _ : Unit => True) (fun _ => ([.ptr (d + 1) i 0, I 2, .any, .any, .ptr 0 0 0, .any, .ptr 0 1 0] ++ List.replicate 103 .any)) (fun _ => [.cells [.any, .any, .any, .any, .any, .any, .any, .any] 39, .cells [U e.op, I e.int, Sg e.name, Sg e.second, Sg e.place.name, .p (strs e.place.path), .p (.sl 8 (e.args.map Ex.enc)), I e.pos] 39] :: set2 S d i (rdO l s1)) (fun _ => 0) () trivial ?_ ?_ ?_
  · simp
  · simp
  rintro ⟨⟩ -
  simp
  refine awp_draw [] (by kernel_rfl) (by kernel_rfl) ?_
  simp [ho1, hb1]
set_option maxRecDepth 100000 in
set_option maxHeartbeats 4000000 in
theorem strong_2_2 {l : List Tok} {s s1 : RS} {e : Ex} (hs : s.at_ ≤ l.length) (hb : s.bad = false) (hno : isP l s (⟨#[110, 111, 116]⟩ : ByteArray) 0 = false) (ih : RdC 107 [I (3 : Nat)] l s s1 (exV e)) (hs1 : s1.at_ ≤ l.length) (hb1 : s1.bad = false) (hlt1 : ¬ (s1.at_ : Int) < (l.length : Int)) : RdC 107 [I (2 : Nat)] l s s1 (exV e) := RdC.intro fun S d i hR => by
  have ho := (hR.upd s hs).o
  have ho1 := (hR.upd s1 hs1).o
  have hm : mayP l s (⟨#[110, 111, 116]⟩ : ByteArray) = s := by unfold mayP; rw [hno]; rfl
  refine ADet.intro mixed Tryz.call107 Tryz.func107 rfl ?_
  simp [Tryz.ntmps107]
  refine ⟨_, _, (placeRW s).at hR hs _, ?_⟩
  simp [ho, hb]
  refine ⟨_, _, (mayW s (⟨#[110, 111, 116]⟩ : ByteArray)).at hR hs _, ?_⟩
  rw [hno, hm]
  simp
  refine ⟨_, _, ih.at hR hs _, ?_⟩
  simp
  refine awp_loop (fun _ : Unit => True) (fun _ => ([.ptr (d + 1) i 0, I 2, .any, .any, .ptr 0 0 0, .any, .ptr 0 1 0] ++ List.replicate 103 .any)) (fun _ => [.cells [.any, .any, .any, .any, .any, .any, .any, .any] 39, .cells [U e.op, I e.int, Sg e.name, Sg e.second, Sg e.place.name, .p (strs e.place.path), .p (.sl 8 (e.args.map Ex.enc)), I e.pos] 39] :: set2 S d i (rdO l s1)) (fun _ => 0) () trivial ?_ ?_ ?_
  · simp
  · simp
  rintro ⟨⟩ -
  simp
  refine awp_draw [] (by kernel_rfl) (by kernel_rfl) ?_
  simp [ho1, hb1, hlt1]
set_option maxRecDepth 100000 in
set_option maxHeartbeats 4000000 in
theorem strong_2_3 {l : List Tok} {s s1 : RS} {e : Ex} (hs : s.at_ ≤ l.length) (hb : s.bad = false) (hno : isP l s (⟨#[110, 111, 116]⟩ : ByteArray) 0 = false) (ih : RdC 107 [I (3 : Nat)] l s s1 (exV e)) (hs1 : s1.at_ ≤ l.length) (hb1 : s1.bad = false) (hlt1 : (s1.at_ : Int) < (l.length : Int)) {x : Tok} (hx1 : l[s1.at_]? = some x) (hf : findK x.text (signsK 2) = none) : RdC 107 [I (2 : Nat)] l s s1 (exV e) := RdC.intro fun S d i hR => by
  have ho := (hR.upd s hs).o
  have ho1 := (hR.upd s1 hs1).o
  have hm : mayP l s (⟨#[110, 111, 116]⟩ : ByteArray) = s := by unfold mayP; rw [hno]; rfl
  obtain ⟨j, hj⟩ := find_mapK x.text (signsK 2) 0
  rw [hf, Option.map_none] at hj
  refine ADet.intro mixed Tryz.call107 Tryz.func107 rfl ?_
  simp [Tryz.ntmps107]
  refine ⟨_, _, (placeRW s).at hR hs _, ?_⟩
  simp [ho, hb]
  refine ⟨_, _, (mayW s (⟨#[110, 111, 116]⟩ : ByteArray)).at hR hs _, ?_⟩
  rw [hno, hm]
  simp
  refine ⟨_, _, ih.at hR hs _, ?_⟩
  simp
  refine awp_loop (fun _ : Unit => True) (fun _ => ([.ptr (d + 1) i 0, I 2, .any, .any, .ptr 0 0 0, .any, .ptr 0 1 0] ++ List.replicate 103 .any)) (fun _ => [.cells [.any, .any, .any, .any, .any, .any, .any, .any] 39, .cells [U e.op, I e.int, Sg e.name, Sg e.second, Sg e.place.name, .p (strs e.place.path), .p (.sl 8 (e.args.map Ex.enc)), I e.pos] 39] :: set2 S d i (rdO l s1)) (fun _ => 0) () trivial ?_ ?_ ?_
  · simp
  · simp
  rintro ⟨⟩ -
  simp
  refine awp_draw [] (by kernel_rfl) (by kernel_rfl) ?_
  simp [ho1, hb1, hlt1]
  refine awp_draw [(5, 1), (9, 1), (12, 1)] (by kernel_rfl) (by kernel_rfl) ?_
  simp [ho1, hb1, hlt1]
  obtain ⟨X, sC⟩ := signsC 2 (by omega) [.cells [.any, .any, .any, .any, .any, .any, .any, .any] 39, .cells [U e.op, I e.int, Sg e.name, Sg e.second, Sg e.place.name, .p (strs e.place.path), .p (.sl 8 (e.args.map Ex.enc)), I e.pos] 39] (set2 S d i (rdO l s1))
  refine ⟨_, _, sC, ?_⟩
  simp [ho1, hb1, hlt1, hx1, Tok.enc, mapsK, mapK, hj]
set_option maxRecDepth 100000 in
set_option maxHeartbeats 4000000 in
theorem strong_3_1 {l : List Tok} {s s1 : RS} {e : Ex} (hs : s.at_ ≤ l.length) (hb : s.bad = false) (ih : RdC 107 [I (4 : Nat)] l s s1 (exV e)) (hs1 : s1.at_ ≤ l.length) (hb1 : s1.bad = true) : RdC 107 [I (3 : Nat)] l s s1 (exV e) := RdC.intro fun S d i hR => by
  have ho := (hR.upd s hs).o
  have ho1 := (hR.upd s1 hs1).o
  refine ADet.intro mixed Tryz.call107 Tryz.func107 rfl ?_
  simp [Tryz.ntmps107]
  refine ⟨_, _, (placeRW s).at hR hs _, ?_⟩
  simp [ho, hb]
  refine ⟨_, _, ih.at hR hs _, ?_⟩
  simp
  refine awp_loop (fun _ : Unit => True) (fun _ => ([.ptr (d + 1) i 0, I 3, .any, .any, .ptr 0 0 0, .any, .ptr 0 1 0] ++ List.replicate 103 .any)) (fun _ => [.cells [.any, .any, .any, .any, .any, .any, .any, .any] 39, .cells [U e.op, I e.int, Sg e.name, Sg e.second, Sg e.place.name, .p (strs e.place.path), .p (.sl 8 (e.args.map Ex.enc)), I e.pos] 39] :: set2 S d i (rdO l s1)) (fun _ => 0) () trivial ?_ ?_ ?_
  · simp
  · simp
  rintro ⟨⟩ -
  simp
  refine awp_draw [] (by kernel_rfl) (by kernel_rfl) ?_
  simp [ho1, hb1]
set_option maxRecDepth 100000 in
set_option maxHeartbeats 4000000 in
theorem strong_3_2 {l : List Tok} {s s1 : RS} {e : Ex} (hs : s.at_ ≤ l.length) (hb : s.bad = false) (ih : RdC 107 [I (4 : Nat)] l s s1 (exV e)) (hs1 : s1.at_ ≤ l.length) (hb1 : s1.bad = false) (hlt1 : ¬ (s1.at_ : Int) < (l.length : Int)) : RdC 107 [I (3 : Nat)] l s s1 (exV e) := RdC.intro fun S d i hR => by
  have ho := (hR.upd s hs).o
  have ho1 := (hR.upd s1 hs1).o
  refine ADet.intro mixed Tryz.call107 Tryz.func107 rfl ?_
  simp [Tryz.ntmps107]
  refine ⟨_, _, (placeRW s).at hR hs _, ?_⟩
  simp [ho, hb]
  refine ⟨_, _, ih.at hR hs _, ?_⟩
  simp
  refine awp_loop (fun _ : Unit => True) (fun _ => ([.ptr (d + 1) i 0, I 3, .any, .any, .ptr 0 0 0, .any, .ptr 0 1 0] ++ List.replicate 103 .any)) (fun _ => [.cells [.any, .any, .any, .any, .any, .any, .any, .any] 39, .cells [U e.op, I e.int, Sg e.name, Sg e.second, Sg e.place.name, .p (strs e.place.path), .p (.sl 8 (e.args.map Ex.enc)), I e.pos] 39] :: set2 S d i (rdO l s1)) (fun _ => 0) () trivial ?_ ?_ ?_
  · simp
  · simp
  rintro ⟨⟩ -
  simp
  refine awp_draw [] (by kernel_rfl) (by kernel_rfl) ?_
  simp [ho1, hb1, hlt1]
set_option maxRecDepth 100000 in
set_option maxHeartbeats 4000000 in
theorem strong_3_3 {l : List Tok} {s s1 : RS} {e : Ex} (hs : s.at_ ≤ l.length) (hb : s.bad = false) (ih : RdC 107 [I (4 : Nat)] l s s1 (exV e)) (hs1 : s1.at_ ≤ l.length) (hb1 : s1.bad = false) (hlt1 : (s1.at_ : Int) < (l.length : Int)) {x : Tok} (hx1 : l[s1.at_]? = some x) (hf : findK x.text (signsK 3) = none) : RdC 107 [I (3 : Nat)] l s s1 (exV e) := RdC.intro fun S d i hR => by
  have ho := (hR.upd s hs).o
  have ho1 := (hR.upd s1 hs1).o
  obtain ⟨j, hj⟩ := find_mapK x.text (signsK 3) 0
  rw [hf, Option.map_none] at hj
  refine ADet.intro mixed Tryz.call107 Tryz.func107 rfl ?_
  simp [Tryz.ntmps107]
  refine ⟨_, _, (placeRW s).at hR hs _, ?_⟩
  simp [ho, hb]
  refine ⟨_, _, ih.at hR hs _, ?_⟩
  simp
  refine awp_loop (fun _ : Unit => True) (fun _ => ([.ptr (d + 1) i 0, I 3, .any, .any, .ptr 0 0 0, .any, .ptr 0 1 0] ++ List.replicate 103 .any)) (fun _ => [.cells [.any, .any, .any, .any, .any, .any, .any, .any] 39, .cells [U e.op, I e.int, Sg e.name, Sg e.second, Sg e.place.name, .p (strs e.place.path), .p (.sl 8 (e.args.map Ex.enc)), I e.pos] 39] :: set2 S d i (rdO l s1)) (fun _ => 0) () trivial ?_ ?_ ?_
  · simp
  · simp
  rintro ⟨⟩ -
  simp
  refine awp_draw [] (by kernel_rfl) (by kernel_rfl) ?_
  simp [ho1, hb1, hlt1]
  refine awp_draw [(5, 1), (9, 1), (12, 1)] (by kernel_rfl) (by kernel_rfl) ?_
  simp [ho1, hb1, hlt1]
  obtain ⟨X, sC⟩ := signsC 3 (by omega) [.cells [.any, .any, .any, .any, .any, .any, .any, .any] 39, .cells [U e.op, I e.int, Sg e.name, Sg e.second, Sg e.place.name, .p (strs e.place.path), .p (.sl 8 (e.args.map Ex.enc)), I e.pos] 39] (set2 S d i (rdO l s1))
  refine ⟨_, _, sC, ?_⟩
  simp [ho1, hb1, hlt1, hx1, Tok.enc, mapsK, mapK, hj]
end Go.Proofs.YtjkdpnnccaeepaaGreatDoor
