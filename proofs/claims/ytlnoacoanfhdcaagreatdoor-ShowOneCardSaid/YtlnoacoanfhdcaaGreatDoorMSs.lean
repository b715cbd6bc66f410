/- How statements and items are written: the small parts (printed by a program of my own). No statement is proved here. -/
import Derived.Test.YtlnoacoanfhdcaaGreatDoorMPg
import Derived.Test.YtlnoacoanfhdcaaGreatDoorMSp
namespace Go.Proofs.YtlnoacoanfhdcaaGreatDoor
open Go.RowKit
attribute [local simp] List.replicate List.range List.range.loop resA resOne retA AV.cuts AV.cut AObj.cut trim wkR wkT wkL wkN wkNR wkNL wkM wkMR wkML virtL virtO virt_get markL markO markR_get rowA awpI_nil awpI_cons List.forall_mem_cons List.contains_cons List.contains_nil List.find? nextD_eq awpD_nil awpD_cons LCp LCl refL
set_option linter.unusedVariables false
set_option linter.unusedSimpArgs false

/-- a statement, written -/
def StW (s : St) : Prop := WrC 91 [stmV s] s.tk
theorem tl_take_flat {α : Type} (f : α → List ByteArray) (l : List α) (q : Nat) : tl ((l.take q).flatMap f) ≤ tl (l.flatMap f) := by
  conv => rhs; rw [← List.take_append_drop q l, List.flatMap_append, tl_append]
  omega
theorem take_flat_snoc {α : Type} (f : α → List ByteArray) (l : List α) {q : Nat} (h : q < l.length) : (l.take (q + 1)).flatMap f = (l.take q).flatMap f ++ f l[q] := by
  rw [take_snoc _ h, List.flatMap_append]; simp
set_option maxRecDepth 100000 in
set_option maxHeartbeats 1000000 in
theorem stmtsW (l : List St) (hl : ∀ s ∈ l, StW s) : WrC 51 [.p (.sl 15 (l.map St.enc))] (l.flatMap St.tk) := by
  refine WrC.intro fun S d i j p h hb => ?_
  refine ADet.okP Tryz.call51 1 rfl fun hok => ?_
  have hlen := okl hok
  refine ADet.intro mixed Tryz.call51 Tryz.func51 rfl ?_
  simp [Tryz.ntmps51]
  refine awp_loop (fun q : Nat => q ≤ l.length) (fun q => [.ptr (d + 1) i 0, .any, .any, .any, .any, .any, .p (.sl 15 (l.map St.enc)), I l.length, I q, .any, .any, .any, .any, .any, .any, .any]) (fun q => [] :: upd S d i j (putT ((l.take q).flatMap St.tk) p)) (fun q => l.length - q) 0 (Nat.zero_le _) ?_ ?_ ?_
  · simp
  · simp
  rintro q hq
  by_cases hlt : q < l.length
  · have h1 := tl_take_flat St.tk l (q + 1)
    have hT := take_flat_snoc St.tk l hlt
    have hs := hl _ (List.getElem_mem hlt)
    rw [hT, tl_append] at h1
    generalize hx : l[q] = s at *
    simp [hlt, hx, stEnc]
    refine ⟨_, _, hs.at h _ _ (by omega), ?_⟩
    simp [hlt]
    exact ⟨q + 1, hlt, by omega, wrap_succ hlt, by rw [hT]⟩
  · have : l.take q = l := List.take_of_length_le (by omega)
    simp [hlt, this]
set_option maxRecDepth 100000 in
set_option maxHeartbeats 1000000 in
theorem blockW (l : List St) (hl : ∀ s ∈ l, StW s) : WrC 131 [.p (.sl 15 (l.map St.enc))] (braceTk (l.flatMap St.tk)) := by
  refine WrC.intro fun S d i j p h hb => ?_
  unfold braceTk at hb ⊢
  simp only [tl_cons, tl_append, tl_nil] at hb
  refine ADet.intro mixed Tryz.call131 Tryz.func131 rfl ?_
  simp [Tryz.ntmps131]
  refine ⟨_, _, (putV [(⟨#[123]⟩ : ByteArray)] (by rfl)).at h _ _ (by simp [tl_append, tl_cons, tl_nil]; omega), ?_⟩
  simp
  refine ⟨_, _, (stmtsW l hl).at h _ _ (by simp [tl_append, tl_cons, tl_nil]; omega), ?_⟩
  simp
  refine ⟨_, _, (putV [(⟨#[125]⟩ : ByteArray)] (by rfl)).at h _ _ (by simp [tl_append, tl_cons, tl_nil]; omega), ?_⟩
  simp
set_option maxRecDepth 100000 in
set_option maxHeartbeats 1000000 in
theorem armW (a : Ar) (hl : ∀ s ∈ a.body, StW s) : WrC 120 [arV a] a.tk := by
  refine WrC.intro fun S d i j p h hb => ?_
  rw [arTk_eq] at hb ⊢
  unfold armTk at hb ⊢
  have hbl := blockW a.body hl
  refine ADet.intro mixed Tryz.call120 Tryz.func120 rfl ?_
  cases hn : sEq a.name emS with
  | true =>
    simp only [hn, if_true, List.nil_append, tl_cons, tl_append, tl_nil] at hb
    simp [Tryz.ntmps120]
    refine awp_draw [] (by kernel_rfl) (by kernel_rfl) ?_
    simp
    refine ⟨_, _, (putV [a.variant] (by rfl)).at h _ _ (by simp [tl_append, tl_cons, tl_nil]; omega), ?_⟩
    simp [hn]
    refine ⟨_, _, (putV [(⟨#[61, 62]⟩ : ByteArray)] (by rfl)).at h _ _ (by simp [tl_append, tl_cons, tl_nil]; omega), ?_⟩
    simp
    refine ⟨_, _, hbl.at h _ _ (by simp [tl_append, tl_cons, tl_nil]; omega), ?_⟩
    simp
  | false =>
    simp only [hn, Bool.false_eq_true, if_false, tl_cons, tl_append, tl_nil] at hb
    simp [Tryz.ntmps120]
    refine awp_draw [] (by kernel_rfl) (by kernel_rfl) ?_
    simp
    refine ⟨_, _, (putV [a.variant] (by rfl)).at h _ _ (by simp [tl_append, tl_cons, tl_nil]; omega), ?_⟩
    simp [hn]
    refine awp_draw [] (by kernel_rfl) (by kernel_rfl) ?_
    simp
    refine ⟨_, _, (putV [(⟨#[40]⟩ : ByteArray), a.name, (⟨#[41]⟩ : ByteArray)] (by rfl)).at h _ _ (by simp [tl_append, tl_cons, tl_nil]; omega), ?_⟩
    simp
    refine ⟨_, _, (putV [(⟨#[61, 62]⟩ : ByteArray)] (by rfl)).at h _ _ (by simp [tl_append, tl_cons, tl_nil]; omega), ?_⟩
    simp
    refine ⟨_, _, hbl.at h _ _ (by simp [tl_append, tl_cons, tl_nil]; omega), ?_⟩
    simp
set_option maxRecDepth 100000 in
set_option maxHeartbeats 1000000 in
theorem nameW (s : ByteArray) : WrC 119 [Sg s] [s] := by
  refine WrC.intro fun S d i j p h hb => ?_
  simp only [tl_cons, tl_nil] at hb
  refine ADet.intro mixed Tryz.call119 Tryz.func119 rfl ?_
  simp [Tryz.ntmps119]
  refine ⟨_, _, (putV [s] (by rfl)).at h _ _ (by simp [tl_append, tl_cons, tl_nil]; omega), ?_⟩
  simp
theorem namesW (l : List ByteArray) (hl : ∀ x ∈ l, WrC 119 [Sg x] [x]) {S : ASt} {d i j : Nat} {p0 : Pg} (h : At S d i j p0) (p : Pg) (L : List AObj) (hb : p.bytes.size + tl (commas (l.map (fun s => [s]))) ≤ 4294967296) :
    ADet Tryz.prog 118 [.ptr (d + 1) i 0, .p (strs l), .fn (.func 119) [.ptr (d + 1) i 0] []] (L :: upd S d i j p) .un (L :: upd S d i j (putT (commas (l.map (fun s => [s]))) p)) := by
  have := listed_string l (l.map (fun s => [s])) (by simp) 119 [.ptr (d + 1) i 0] [] (d + 1) i j (fun _ => L :: S) p (fun q hq => ⟨p0, h.push L⟩) (fun q hq L' pg hpg => by
    simp only [AV.ups, AV.up, List.cons_append, List.nil_append, List.getElem_map] at hpg ⊢
    rw [upd_suc, upd_suc]
    exact (hl _ (List.getElem_mem hq)).at2 h pg L' L hpg) hb
  rw [upd_suc, upd_suc] at this
  exact this

def wholeFi (f : Fi) : Prop := ∃ d, f.type.whole d = true
set_option maxRecDepth 100000 in
set_option maxHeartbeats 1000000 in
theorem fieldW (f : Fi) (d0 : Int) (hw : f.type.whole d0 = true) : WrC 49 [fiV f] (fieldTk f) := by
  refine WrC.intro fun S d i j p h hb => ?_
  unfold fieldTk at hb ⊢
  simp only [tl_cons] at hb
  have hk := kindC f.type d0 hw
  refine ADet.intro mixed Tryz.call49 Tryz.func49 rfl ?_
  simp [Tryz.ntmps49]
  refine awp_draw [] (by kernel_rfl) (by kernel_rfl) ?_
  simp
  refine ⟨_, _, (putV [f.name, (⟨#[58]⟩ : ByteArray)] (by rfl)).at h _ _ (by simp [tl_append, tl_cons, tl_nil]; omega), ?_⟩
  simp
  refine ⟨_, _, hk.at h _ _ (by simp [tl_append, tl_cons, tl_nil]; omega), ?_⟩
  simp
set_option maxRecDepth 100000 in
set_option maxHeartbeats 1000000 in
theorem variantW (f : Fi) (d0 : Int) (hw : f.type.kind = 0 ∨ f.type.whole d0 = true) : WrC 50 [fiV f] (varTk f) := by
  refine WrC.intro fun S d i j p h hb => ?_
  unfold varTk at hb ⊢
  refine ADet.intro mixed Tryz.call50 Tryz.func50 rfl ?_
  by_cases h0 : f.type.kind = 0
  · simp only [h0, if_true, tl_cons, tl_nil] at hb
    have t0 : (f.type.kind == 0) = true := by rw [h0]; rfl
    simp [Tryz.ntmps50]
    refine awp_draw [] (by kernel_rfl) (by kernel_rfl) ?_
    simp
    refine ⟨_, _, (putV [f.name] (by rfl)).at h _ _ (by simp [tl_append, tl_cons, tl_nil]; omega), ?_⟩
    simp [t0, h0]
  · simp only [h0, if_false, tl_cons, tl_append, tl_nil] at hb
    have t0 : (f.type.kind != 0) = true := by simp [h0]
    have hk := kindC f.type d0 (hw.resolve_left h0)
    simp [Tryz.ntmps50]
    refine awp_draw [] (by kernel_rfl) (by kernel_rfl) ?_
    simp
    refine ⟨_, _, (putV [f.name] (by rfl)).at h _ _ (by simp [tl_append, tl_cons, tl_nil]; omega), ?_⟩
    simp [t0]
    refine ⟨_, _, (putV [(⟨#[40]⟩ : ByteArray)] (by rfl)).at h _ _ (by simp [tl_append, tl_cons, tl_nil]; omega), ?_⟩
    simp
    refine ⟨_, _, hk.at h _ _ (by simp [tl_append, tl_cons, tl_nil]; omega), ?_⟩
    simp
    refine ⟨_, _, (putV [(⟨#[41]⟩ : ByteArray)] (by rfl)).at h _ _ (by simp [tl_append, tl_cons, tl_nil]; omega), ?_⟩
    simp [h0]
theorem fieldsW (l : List Fi) (hl : ∀ x ∈ l, WrC 49 [fiV x] (fieldTk x)) {S : ASt} {d i j : Nat} {p0 : Pg} (h : At S d i j p0) (p : Pg) (L : List AObj) (hb : p.bytes.size + tl (commas (l.map fieldTk)) ≤ 4294967296) :
    ADet Tryz.prog 48 [.ptr (d + 1) i 0, .p (.sl 4 (l.map Fi.enc)), .fn (.func 49) [.ptr (d + 1) i 0] []] (L :: upd S d i j p) .un (L :: upd S d i j (putT (commas (l.map fieldTk)) p)) := by
  have := listed_Field l (l.map fieldTk) (by simp) 49 [.ptr (d + 1) i 0] [] (d + 1) i j (fun _ => L :: S) p (fun q hq => ⟨p0, h.push L⟩) (fun q hq L' pg hpg => by
    simp only [AV.ups, AV.up, List.cons_append, List.nil_append, List.getElem_map] at hpg ⊢
    rw [upd_suc, upd_suc]
    exact (hl _ (List.getElem_mem hq)).at2 h pg L' L hpg) hb
  rw [upd_suc, upd_suc] at this
  exact this
theorem variantsW (l : List Fi) (hl : ∀ x ∈ l, WrC 50 [fiV x] (varTk x)) {S : ASt} {d i j : Nat} {p0 : Pg} (h : At S d i j p0) (p : Pg) (L : List AObj) (hb : p.bytes.size + tl (commas (l.map varTk)) ≤ 4294967296) :
    ADet Tryz.prog 48 [.ptr (d + 1) i 0, .p (.sl 4 (l.map Fi.enc)), .fn (.func 50) [.ptr (d + 1) i 0] []] (L :: upd S d i j p) .un (L :: upd S d i j (putT (commas (l.map varTk)) p)) := by
  have := listed_Field l (l.map varTk) (by simp) 50 [.ptr (d + 1) i 0] [] (d + 1) i j (fun _ => L :: S) p (fun q hq => ⟨p0, h.push L⟩) (fun q hq L' pg hpg => by
    simp only [AV.ups, AV.up, List.cons_append, List.nil_append, List.getElem_map] at hpg ⊢
    rw [upd_suc, upd_suc]
    exact (hl _ (List.getElem_mem hq)).at2 h pg L' L hpg) hb
  rw [upd_suc, upd_suc] at this
  exact this
end Go.Proofs.YtlnoacoanfhdcaaGreatDoor
