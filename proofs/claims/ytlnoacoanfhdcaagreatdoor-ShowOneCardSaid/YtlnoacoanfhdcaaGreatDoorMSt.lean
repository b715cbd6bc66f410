/- How a statement is written (printed by a program of my own). No statement is proved here. -/
import Derived.Test.YtlnoacoanfhdcaaGreatDoorMSs
namespace Go.Proofs.YtlnoacoanfhdcaaGreatDoor
open Go.RowKit
attribute [local simp] List.replicate List.range List.range.loop resA resOne retA AV.cuts AV.cut AObj.cut trim wkR wkT wkL wkN wkNR wkNL wkM wkMR wkML virtL virtO virt_get markL markO markR_get rowA awpI_nil awpI_cons List.forall_mem_cons List.contains_cons List.contains_nil List.find? nextD_eq awpD_nil awpD_cons LCp LCl refL
set_option linter.unusedVariables false
set_option linter.unusedSimpArgs false
set_option maxRecDepth 100000 in
set_option maxHeartbeats 2000000 in
theorem restW (s : St) (hb1 : ∀ x ∈ s.body, StW x) (hb2 : ∀ x ∈ s.els, StW x) : WrC 122 [stmV s] (restTk s.op (s.body.flatMap St.tk) s.els.length (s.els.flatMap St.tk)) := by
  refine WrC.intro fun S d i j p h hb => ?_
  unfold restTk at hb ⊢
  have k1 := blockW s.body hb1
  have k2 := blockW s.els hb2
  have hlb := tl_brace (s.body.flatMap St.tk)
  have hle := tl_brace (s.els.flatMap St.tk)
  refine ADet.intro mixed Tryz.call122 Tryz.func122 rfl ?_
  by_cases hop1 : s.op = 1
  · have T : ∀ m : Int, (s.op == m) = ((1 : Int) == m) := fun m => by rw [hop1]
    rw [if_pos (by omega)] at hb ⊢
    simp only [tl_cons, tl_nil] at hb
    simp [Tryz.ntmps122, T]
    refine ⟨_, _, (putV [(⟨#[59]⟩ : ByteArray)] (by rfl)).at h _ _ (by simp [tl_append, tl_cons, tl_nil]; omega), ?_⟩
    simp [T]
  by_cases hop2 : s.op = 2
  · have T : ∀ m : Int, (s.op == m) = ((2 : Int) == m) := fun m => by rw [hop2]
    rw [if_pos (by omega)] at hb ⊢
    simp only [tl_cons, tl_nil] at hb
    simp [Tryz.ntmps122, T]
    refine ⟨_, _, (putV [(⟨#[59]⟩ : ByteArray)] (by rfl)).at h _ _ (by simp [tl_append, tl_cons, tl_nil]; omega), ?_⟩
    simp [T]
  by_cases hop3 : s.op = 3
  · have T : ∀ m : Int, (s.op == m) = ((3 : Int) == m) := fun m => by rw [hop3]
    rw [if_pos (by omega)] at hb ⊢
    simp only [tl_cons, tl_nil] at hb
    simp [Tryz.ntmps122, T]
    refine ⟨_, _, (putV [(⟨#[59]⟩ : ByteArray)] (by rfl)).at h _ _ (by simp [tl_append, tl_cons, tl_nil]; omega), ?_⟩
    simp [T]
  by_cases hop4 : s.op = 4
  · have T : ∀ m : Int, (s.op == m) = ((4 : Int) == m) := fun m => by rw [hop4]
    rw [if_pos (by omega)] at hb ⊢
    simp only [tl_cons, tl_nil] at hb
    simp [Tryz.ntmps122, T]
    refine ⟨_, _, (putV [(⟨#[59]⟩ : ByteArray)] (by rfl)).at h _ _ (by simp [tl_append, tl_cons, tl_nil]; omega), ?_⟩
    simp [T]
  rw [if_neg (by omega)] at hb ⊢
  by_cases hop6 : s.op = 6
  · have T : ∀ m : Int, (s.op == m) = ((6 : Int) == m) := fun m => by rw [hop6]
    rw [if_pos (by omega)] at hb ⊢
    by_cases hel : s.els = []
    · have h0 : s.els.length = 0 := by rw [hel]; rfl
      simp only [h0, if_true, tl_append, tl_nil] at hb
      simp [Tryz.ntmps122, T]
      refine ⟨_, _, k1.at h _ _ (by simp only [tl_nil]; omega), ?_⟩
      simp [T, hel, h0]
    · have h0 : ¬ s.els.length = 0 := fun e => hel (List.eq_nil_of_length_eq_zero e)
      have hp : 0 < s.els.length := by omega
      simp only [h0, if_false, tl_append, tl_cons, tl_nil] at hb
      simp [Tryz.ntmps122, T]
      refine ⟨_, _, k1.at h _ _ (by simp only [tl_nil]; omega), ?_⟩
      simp [T, hp]
      refine ⟨_, _, (putV [(⟨#[101, 108, 115, 101]⟩ : ByteArray)] (by rfl)).at h _ _ (by simp [tl_append, tl_cons, tl_nil]; omega), ?_⟩
      simp [T]
      refine ⟨_, _, k2.at h _ _ (by simp [tl_append, tl_cons, tl_nil]; omega), ?_⟩
      simp [T, hel, h0]
  by_cases hop7 : s.op = 7
  · have T : ∀ m : Int, (s.op == m) = ((7 : Int) == m) := fun m => by rw [hop7]
    rw [if_pos (by omega)] at hb ⊢
    by_cases hel : s.els = []
    · have h0 : s.els.length = 0 := by rw [hel]; rfl
      simp only [h0, if_true, tl_append, tl_nil] at hb
      simp [Tryz.ntmps122, T]
      refine ⟨_, _, k1.at h _ _ (by simp only [tl_nil]; omega), ?_⟩
      simp [T, hel, h0]
    · have h0 : ¬ s.els.length = 0 := fun e => hel (List.eq_nil_of_length_eq_zero e)
      have hp : 0 < s.els.length := by omega
      simp only [h0, if_false, tl_append, tl_cons, tl_nil] at hb
      simp [Tryz.ntmps122, T]
      refine ⟨_, _, k1.at h _ _ (by simp only [tl_nil]; omega), ?_⟩
      simp [T, hp]
      refine ⟨_, _, (putV [(⟨#[101, 108, 115, 101]⟩ : ByteArray)] (by rfl)).at h _ _ (by simp [tl_append, tl_cons, tl_nil]; omega), ?_⟩
      simp [T]
      refine ⟨_, _, k2.at h _ _ (by simp [tl_append, tl_cons, tl_nil]; omega), ?_⟩
      simp [T, hel, h0]
  by_cases hop9 : s.op = 9
  · have T : ∀ m : Int, (s.op == m) = ((9 : Int) == m) := fun m => by rw [hop9]
    rw [if_pos (by omega)] at hb ⊢
    by_cases hel : s.els = []
    · have h0 : s.els.length = 0 := by rw [hel]; rfl
      simp only [h0, if_true, tl_append, tl_nil] at hb
      simp [Tryz.ntmps122, T]
      refine ⟨_, _, k1.at h _ _ (by simp only [tl_nil]; omega), ?_⟩
      simp [T, hel, h0]
    · have h0 : ¬ s.els.length = 0 := fun e => hel (List.eq_nil_of_length_eq_zero e)
      have hp : 0 < s.els.length := by omega
      simp only [h0, if_false, tl_append, tl_cons, tl_nil] at hb
      simp [Tryz.ntmps122, T]
      refine ⟨_, _, k1.at h _ _ (by simp only [tl_nil]; omega), ?_⟩
      simp [T, hp]
      refine ⟨_, _, (putV [(⟨#[101, 108, 115, 101]⟩ : ByteArray)] (by rfl)).at h _ _ (by simp [tl_append, tl_cons, tl_nil]; omega), ?_⟩
      simp [T]
      refine ⟨_, _, k2.at h _ _ (by simp [tl_append, tl_cons, tl_nil]; omega), ?_⟩
      simp [T, hel, h0]
  by_cases hop11 : s.op = 11
  · have T : ∀ m : Int, (s.op == m) = ((11 : Int) == m) := fun m => by rw [hop11]
    rw [if_pos (by omega)] at hb ⊢
    by_cases hel : s.els = []
    · have h0 : s.els.length = 0 := by rw [hel]; rfl
      simp only [h0, if_true, tl_append, tl_nil] at hb
      simp [Tryz.ntmps122, T]
      refine ⟨_, _, k1.at h _ _ (by simp only [tl_nil]; omega), ?_⟩
      simp [T, hel, h0]
    · have h0 : ¬ s.els.length = 0 := fun e => hel (List.eq_nil_of_length_eq_zero e)
      have hp : 0 < s.els.length := by omega
      simp only [h0, if_false, tl_append, tl_cons, tl_nil] at hb
      simp [Tryz.ntmps122, T]
      refine ⟨_, _, k1.at h _ _ (by simp only [tl_nil]; omega), ?_⟩
      simp [T, hp]
      refine ⟨_, _, (putV [(⟨#[101, 108, 115, 101]⟩ : ByteArray)] (by rfl)).at h _ _ (by simp [tl_append, tl_cons, tl_nil]; omega), ?_⟩
      simp [T]
      refine ⟨_, _, k2.at h _ _ (by simp [tl_append, tl_cons, tl_nil]; omega), ?_⟩
      simp [T, hel, h0]
  by_cases hop13 : s.op = 13
  · have T : ∀ m : Int, (s.op == m) = ((13 : Int) == m) := fun m => by rw [hop13]
    rw [if_pos (by omega)] at hb ⊢
    by_cases hel : s.els = []
    · have h0 : s.els.length = 0 := by rw [hel]; rfl
      simp only [h0, if_true, tl_append, tl_nil] at hb
      simp [Tryz.ntmps122, T]
      refine ⟨_, _, k1.at h _ _ (by simp only [tl_nil]; omega), ?_⟩
      simp [T, hel, h0]
    · have h0 : ¬ s.els.length = 0 := fun e => hel (List.eq_nil_of_length_eq_zero e)
      have hp : 0 < s.els.length := by omega
      simp only [h0, if_false, tl_append, tl_cons, tl_nil] at hb
      simp [Tryz.ntmps122, T]
      refine ⟨_, _, k1.at h _ _ (by simp only [tl_nil]; omega), ?_⟩
      simp [T, hp]
      refine ⟨_, _, (putV [(⟨#[101, 108, 115, 101]⟩ : ByteArray)] (by rfl)).at h _ _ (by simp [tl_append, tl_cons, tl_nil]; omega), ?_⟩
      simp [T]
      refine ⟨_, _, k2.at h _ _ (by simp [tl_append, tl_cons, tl_nil]; omega), ?_⟩
      simp [T, hel, h0]
  rw [if_neg (by omega)] at hb ⊢
  have F1 : (s.op == 1) = false := by rw [beq_eq_false_iff_ne]; exact hop1
  have F2 : (s.op == 2) = false := by rw [beq_eq_false_iff_ne]; exact hop2
  have F3 : (s.op == 3) = false := by rw [beq_eq_false_iff_ne]; exact hop3
  have F4 : (s.op == 4) = false := by rw [beq_eq_false_iff_ne]; exact hop4
  have F6 : (s.op == 6) = false := by rw [beq_eq_false_iff_ne]; exact hop6
  have F7 : (s.op == 7) = false := by rw [beq_eq_false_iff_ne]; exact hop7
  have F9 : (s.op == 9) = false := by rw [beq_eq_false_iff_ne]; exact hop9
  have F11 : (s.op == 11) = false := by rw [beq_eq_false_iff_ne]; exact hop11
  have F13 : (s.op == 13) = false := by rw [beq_eq_false_iff_ne]; exact hop13
  simp [Tryz.ntmps122, F1, F2, F3, F4, F6, F7, F9, F11, F13]
set_option maxRecDepth 100000 in
set_option maxHeartbeats 2000000 in
theorem spawnW (s : St) (hop : s.op = 10) (hn : s.names.length = s.exprs.length) (hlm : s.exprs.length ≤ 20000) (hx : ∀ e ∈ s.exprs, ExW e) (hb1 : ∀ x ∈ s.body, StW x) : WrC 121 [stmV s] s.tk := by
  refine WrC.intro fun S d i j p h hb => ?_
  have htk : s.tk = (⟨#[115, 112, 97, 119, 110]⟩ : ByteArray) :: (⟨#[40]⟩ : ByteArray) :: (commas (givenTk s.names (s.exprs.map Ex.tk)) ++ (⟨#[41]⟩ : ByteArray) :: braceTk (s.body.flatMap St.tk)) := by
    rw [stTk_eq]; unfold stTk1; rw [if_pos hop]
  rw [htk] at hb ⊢
  simp only [tl_cons, tl_append, tl_nil] at hb
  have k1 := blockW s.body hb1
  have k2 := givenW s.names s.exprs hn hlm hx
  refine ADet.intro mixed Tryz.call121 Tryz.func121 rfl ?_
  simp [Tryz.ntmps121]
  refine ⟨_, _, (putV [(⟨#[115, 112, 97, 119, 110]⟩ : ByteArray), (⟨#[40]⟩ : ByteArray)] (by rfl)).at h _ _ (by simp [tl_append, tl_cons, tl_nil]; omega), ?_⟩
  simp
  refine ⟨_, _, k2.at h _ _ (by simp [tl_append, tl_cons, tl_nil]; omega), ?_⟩
  simp
  refine ⟨_, _, (putV [(⟨#[41]⟩ : ByteArray)] (by rfl)).at h _ _ (by simp [tl_append, tl_cons, tl_nil]; omega), ?_⟩
  simp
  refine ⟨_, _, k1.at h _ _ (by simp [tl_append, tl_cons, tl_nil]; omega), ?_⟩
  simp

/-- a statement that is whole, taken apart -/
theorem st_split {s : St} {d : Int} (h : s.whole d = true) : (1 ≤ s.op ∧ s.op ≤ 13) ∧ countB s.op s.int = true ∧ ((s.exprs.length : Int) = fmExprs s.op s.names.length ∧ s.exprs.length ≤ 6 ∧ s.names.length ≤ 6 ∧ s.arms.length ≤ 6) ∧ (s.op = 12 → s.type.whole (d - 1) = true) ∧
    (∀ e ∈ s.exprs, e.whole (d - 1) = true) ∧ (∀ x ∈ s.body, x.whole (d - 1) = true) ∧ (∀ x ∈ s.els, x.whole (d - 1) = true) ∧ (∀ a ∈ s.arms, ∀ x ∈ a.body, x.whole (d - 1) = true) := by
  rw [stWhole_eq] at h
  simp only [Bool.and_eq_true, decide_eq_true_eq, stHead, fmOk, exsB, allUp, Bool.or_eq_true, beq_iff_eq] at h
  obtain ⟨h1, ⟨⟨h2, h3⟩, h4, h5, h6, h7, ⟨h8, h9⟩, h10, h11⟩, h12, h13, h14, ⟨h15, h16⟩, h17, h18, h19, h20⟩ := h
  rw [List.take_of_length_le (by omega)] at h16 h20
  refine ⟨⟨h2, h3⟩, h4, ⟨h7, by omega, ?_, by omega⟩, fun h => ?_, fun e he => ?_, fun x hx => ?_, fun x hx => ?_, fun a ha x hx => ?_⟩
  · have : fmNames s.op ≤ 6 := by unfold fmNames; split <;> omega
    omega
  · rw [← h10]; unfold fmTyped; rw [h]; rfl
  · have := List.all_eq_true.1 h16 e he
    simp only [Bool.and_eq_true] at this
    exact this.2
  · exact List.all_eq_true.1 h17 x hx
  · exact List.all_eq_true.1 h18 x hx
  · have := List.all_eq_true.1 h20 a ha
    simp only [Ar.whole, Bool.and_eq_true] at this
    exact List.all_eq_true.1 this.2.2 x hx
set_option maxRecDepth 100000 in
set_option maxHeartbeats 4000000 in
theorem stmt1W (s : St) (hop : s.op = 1) (hx : ∀ e ∈ s.exprs, ExW e) (hb1 : ∀ x ∈ s.body, StW x) (hb2 : ∀ x ∈ s.els, StW x) : StW s := by
  refine WrC.intro fun S d i j p h hb => ?_
  have T : ∀ m : Int, (s.op == m) = ((1 : Int) == m) := fun m => by rw [hop]
  have hR := restW s hb1 hb2
  have htk : s.tk = [(⟨#[108, 101, 116]⟩ : ByteArray), s.name, (⟨#[61]⟩ : ByteArray)] ++ (s.exprs.flatMap Ex.tk ++ restTk s.op (s.body.flatMap St.tk) s.els.length (s.els.flatMap St.tk)) := by
    rw [stTk_eq]; unfold stTk1 headTk; rw [List.flatMap_def (f := Ex.tk)]; simp [hop]
  rw [htk] at hb ⊢
  simp only [tl_cons, tl_append, tl_nil] at hb
  generalize hRt : restTk s.op (s.body.flatMap St.tk) s.els.length (s.els.flatMap St.tk) = R at *
  refine ADet.okA Tryz.call91 1 10 rfl rfl fun hok => ?_
  have hlen := okl hok
  refine ADet.intro mixed Tryz.call91 Tryz.func91 rfl ?_
  · simp [Tryz.ntmps91, T]
    refine awp_draw [] (by kernel_rfl) (by kernel_rfl) ?_
    simp [T]
    refine ⟨_, _, (putV [(⟨#[108, 101, 116]⟩ : ByteArray), s.name, (⟨#[61]⟩ : ByteArray)] (by rfl)).at h _ _ (by simp [tl_append, tl_cons, tl_nil]; omega), ?_⟩
    simp [T]
    refine awp_loop (fun q : Nat => q ≤ s.exprs.length) (fun q => ([.ptr (d + 1) i 0, .any, .any, .ptr 0 0 0] ++ (List.replicate 150 .any ++ [.p (.sl 8 (s.exprs.map Ex.enc)), I s.exprs.length, I q, .any, .any, .any, .any, .any, .any, .any, .any, .any, .any]))) (fun q => [.cells (stU s) 81, .dead] :: upd S d i j (putT ([(⟨#[108, 101, 116]⟩ : ByteArray), s.name, (⟨#[61]⟩ : ByteArray)] ++ (s.exprs.take q).flatMap Ex.tk) p)) (fun q => s.exprs.length - q) 0 (Nat.zero_le _) ?_ ?_ ?_
    · simp
    · simp
    rintro q hq
    by_cases hlt : q < s.exprs.length
    · have h1 := tl_take_flat Ex.tk s.exprs (q + 1)
      have hT := take_flat_snoc Ex.tk s.exprs hlt
      have hs := hx _ (List.getElem_mem hlt) 0
      rw [hT, tl_append] at h1
      rw [parTk_0] at hs
      generalize hy : s.exprs[q] = e at *
      simp [hlt, hy, exEnc]
      refine ⟨_, _, hs.at h _ _ (by (try simp [tl_append, tl_cons, tl_nil]); omega), ?_⟩
      simp [hlt]
      exact ⟨q + 1, hlt, by omega, wrap_succ hlt, by first | (rw [hT]; done) | (rw [hT]; simp; done)⟩
    · have ht : s.exprs.take q = s.exprs := List.take_of_length_le (by omega)
      simp [hlt, ht]
      refine ⟨_, _, hR.at h _ _ (by (try simp [tl_append, tl_cons, tl_nil]); omega), ?_⟩
      simp
set_option maxRecDepth 100000 in
set_option maxHeartbeats 4000000 in
theorem stmt2W (s : St) (hop : s.op = 2) (hx : ∀ e ∈ s.exprs, ExW e) (hb1 : ∀ x ∈ s.body, StW x) (hb2 : ∀ x ∈ s.els, StW x) : StW s := by
  refine WrC.intro fun S d i j p h hb => ?_
  have T : ∀ m : Int, (s.op == m) = ((2 : Int) == m) := fun m => by rw [hop]
  have hR := restW s hb1 hb2
  have htk : s.tk = ((⟨#[108, 101, 116]⟩ : ByteArray) :: s.name :: (⟨#[123]⟩ : ByteArray) :: (commas (s.names.map fun s => [s]) ++ [(⟨#[125]⟩ : ByteArray), (⟨#[61]⟩ : ByteArray)])) ++ (s.exprs.flatMap Ex.tk ++ restTk s.op (s.body.flatMap St.tk) s.els.length (s.els.flatMap St.tk)) := by
    rw [stTk_eq]; unfold stTk1 headTk; rw [List.flatMap_def (f := Ex.tk)]; simp [hop]
  rw [htk] at hb ⊢
  simp only [tl_cons, tl_append, tl_nil] at hb
  generalize hRt : restTk s.op (s.body.flatMap St.tk) s.els.length (s.els.flatMap St.tk) = R at *
  refine ADet.okA Tryz.call91 1 10 rfl rfl fun hok => ?_
  have hlen := okl hok
  refine ADet.intro mixed Tryz.call91 Tryz.func91 rfl ?_
  · simp [Tryz.ntmps91, T]
    refine awp_draw [] (by kernel_rfl) (by kernel_rfl) ?_
    simp [T]
    refine ⟨_, _, (putV [(⟨#[108, 101, 116]⟩ : ByteArray), s.name, (⟨#[123]⟩ : ByteArray)] (by rfl)).at h _ _ (by simp [tl_append, tl_cons, tl_nil]; omega), ?_⟩
    simp [T]
    have hp1 := putT_tl ([] ++ [(⟨#[108, 101, 116]⟩ : ByteArray), s.name, (⟨#[123]⟩ : ByteArray)]) p
    simp only [List.nil_append, tl_cons, tl_nil, tl_append] at hp1
    refine ⟨_, _, namesW s.names (fun x _ => nameW x) h _ _ (by simp at hp1 ⊢; omega), ?_⟩
    simp [T]
    rw [← putT_append]
    refine ⟨_, _, (putV [(⟨#[125]⟩ : ByteArray), (⟨#[61]⟩ : ByteArray)] (by rfl)).at h _ _ (by simp [tl_append, tl_cons, tl_nil]; omega), ?_⟩
    simp [T]
    refine awp_loop (fun q : Nat => q ≤ s.exprs.length) (fun q => ([.ptr (d + 1) i 0, .any, .any, .ptr 0 0 0] ++ (List.replicate 150 .any ++ [.p (.sl 8 (s.exprs.map Ex.enc)), I s.exprs.length, I q, .any, .any, .any, .any, .any, .any, .any, .any, .any, .any]))) (fun q => [.cells (stU s) 81, .dead, .dead] :: upd S d i j (putT (((⟨#[108, 101, 116]⟩ : ByteArray) :: s.name :: (⟨#[123]⟩ : ByteArray) :: (commas (s.names.map fun s => [s]) ++ [(⟨#[125]⟩ : ByteArray), (⟨#[61]⟩ : ByteArray)])) ++ (s.exprs.take q).flatMap Ex.tk) p)) (fun q => s.exprs.length - q) 0 (Nat.zero_le _) ?_ ?_ ?_
    · simp
    · simp
    rintro q hq
    by_cases hlt : q < s.exprs.length
    · have h1 := tl_take_flat Ex.tk s.exprs (q + 1)
      have hT := take_flat_snoc Ex.tk s.exprs hlt
      have hs := hx _ (List.getElem_mem hlt) 0
      rw [hT, tl_append] at h1
      rw [parTk_0] at hs
      generalize hy : s.exprs[q] = e at *
      simp [hlt, hy, exEnc]
      refine ⟨_, _, hs.at h _ _ (by (try simp [tl_append, tl_cons, tl_nil]); omega), ?_⟩
      simp [hlt]
      exact ⟨q + 1, hlt, by omega, wrap_succ hlt, by first | (rw [hT]; done) | (rw [hT]; simp; done)⟩
    · have ht : s.exprs.take q = s.exprs := List.take_of_length_le (by omega)
      simp [hlt, ht]
      refine ⟨_, _, hR.at h _ _ (by (try simp [tl_append, tl_cons, tl_nil]); omega), ?_⟩
      simp
set_option maxRecDepth 100000 in
set_option maxHeartbeats 4000000 in
theorem stmt3W (s : St) (hop : s.op = 3) (hx : ∀ e ∈ s.exprs, ExW e) (hb1 : ∀ x ∈ s.body, StW x) (hb2 : ∀ x ∈ s.els, StW x) : StW s := by
  refine WrC.intro fun S d i j p h hb => ?_
  have T : ∀ m : Int, (s.op == m) = ((3 : Int) == m) := fun m => by rw [hop]
  have hR := restW s hb1 hb2
  have htk : s.tk = (s.place.tk ++ [(⟨#[61]⟩ : ByteArray)]) ++ (s.exprs.flatMap Ex.tk ++ restTk s.op (s.body.flatMap St.tk) s.els.length (s.els.flatMap St.tk)) := by
    rw [stTk_eq]; unfold stTk1 headTk; rw [List.flatMap_def (f := Ex.tk)]; simp [hop]
  rw [htk] at hb ⊢
  simp only [tl_cons, tl_append, tl_nil] at hb
  generalize hRt : restTk s.op (s.body.flatMap St.tk) s.els.length (s.els.flatMap St.tk) = R at *
  refine ADet.okA Tryz.call91 1 10 rfl rfl fun hok => ?_
  have hlen := okl hok
  refine ADet.intro mixed Tryz.call91 Tryz.func91 rfl ?_
  · simp [Tryz.ntmps91, T]
    refine ⟨_, _, (placeW s.place).at h _ _ (by simp only [tl_nil]; omega), ?_⟩
    simp [T]
    refine ⟨_, _, (putV [(⟨#[61]⟩ : ByteArray)] (by rfl)).at h _ _ (by simp [tl_append, tl_cons, tl_nil]; omega), ?_⟩
    simp [T]
    refine awp_loop (fun q : Nat => q ≤ s.exprs.length) (fun q => ([.ptr (d + 1) i 0, .any, .any, .ptr 0 0 0] ++ (List.replicate 150 .any ++ [.p (.sl 8 (s.exprs.map Ex.enc)), I s.exprs.length, I q, .any, .any, .any, .any, .any, .any, .any, .any, .any, .any]))) (fun q => [.cells (stU s) 81, .dead] :: upd S d i j (putT ((s.place.tk ++ [(⟨#[61]⟩ : ByteArray)]) ++ (s.exprs.take q).flatMap Ex.tk) p)) (fun q => s.exprs.length - q) 0 (Nat.zero_le _) ?_ ?_ ?_
    · simp
    · simp
    rintro q hq
    by_cases hlt : q < s.exprs.length
    · have h1 := tl_take_flat Ex.tk s.exprs (q + 1)
      have hT := take_flat_snoc Ex.tk s.exprs hlt
      have hs := hx _ (List.getElem_mem hlt) 0
      rw [hT, tl_append] at h1
      rw [parTk_0] at hs
      generalize hy : s.exprs[q] = e at *
      simp [hlt, hy, exEnc]
      refine ⟨_, _, hs.at h _ _ (by (try simp [tl_append, tl_cons, tl_nil]); omega), ?_⟩
      simp [hlt]
      exact ⟨q + 1, hlt, by omega, wrap_succ hlt, by first | (rw [hT]; done) | (rw [hT]; simp; done)⟩
    · have ht : s.exprs.take q = s.exprs := List.take_of_length_le (by omega)
      simp [hlt, ht]
      refine ⟨_, _, hR.at h _ _ (by (try simp [tl_append, tl_cons, tl_nil]); omega), ?_⟩
      simp
set_option maxRecDepth 100000 in
set_option maxHeartbeats 4000000 in
theorem stmt4W (s : St) (hop : s.op = 4) (hx : ∀ e ∈ s.exprs, ExW e) (hb1 : ∀ x ∈ s.body, StW x) (hb2 : ∀ x ∈ s.els, StW x) : StW s := by
  refine WrC.intro fun S d i j p h hb => ?_
  have T : ∀ m : Int, (s.op == m) = ((4 : Int) == m) := fun m => by rw [hop]
  have hR := restW s hb1 hb2
  have htk : s.tk = (s.exprs.flatMap Ex.tk ++ restTk s.op (s.body.flatMap St.tk) s.els.length (s.els.flatMap St.tk)) := by
    rw [stTk_eq]; unfold stTk1 headTk; rw [List.flatMap_def (f := Ex.tk)]; simp [hop]
  rw [htk] at hb ⊢
  simp only [tl_cons, tl_append, tl_nil] at hb
  generalize hRt : restTk s.op (s.body.flatMap St.tk) s.els.length (s.els.flatMap St.tk) = R at *
  refine ADet.okA Tryz.call91 1 10 rfl rfl fun hok => ?_
  have hlen := okl hok
  refine ADet.intro mixed Tryz.call91 Tryz.func91 rfl ?_
  · simp [Tryz.ntmps91, T]
    refine awp_loop (fun q : Nat => q ≤ s.exprs.length) (fun q => ([.ptr (d + 1) i 0, .any, .any, .ptr 0 0 0] ++ (List.replicate 150 .any ++ [.p (.sl 8 (s.exprs.map Ex.enc)), I s.exprs.length, I q, .any, .any, .any, .any, .any, .any, .any, .any, .any, .any]))) (fun q => [.cells (stU s) 81] :: upd S d i j (putT ((s.exprs.take q).flatMap Ex.tk) p)) (fun q => s.exprs.length - q) 0 (Nat.zero_le _) ?_ ?_ ?_
    · simp
    · simp
    rintro q hq
    by_cases hlt : q < s.exprs.length
    · have h1 := tl_take_flat Ex.tk s.exprs (q + 1)
      have hT := take_flat_snoc Ex.tk s.exprs hlt
      have hs := hx _ (List.getElem_mem hlt) 0
      rw [hT, tl_append] at h1
      rw [parTk_0] at hs
      generalize hy : s.exprs[q] = e at *
      simp [hlt, hy, exEnc]
      refine ⟨_, _, hs.at h _ _ (by (try simp [tl_append, tl_cons, tl_nil]); omega), ?_⟩
      simp [hlt]
      exact ⟨q + 1, hlt, by omega, wrap_succ hlt, by first | (rw [hT]; done) | (rw [hT]; simp; done)⟩
    · have ht : s.exprs.take q = s.exprs := List.take_of_length_le (by omega)
      simp [hlt, ht]
      refine ⟨_, _, hR.at h _ _ (by (try simp [tl_append, tl_cons, tl_nil]); omega), ?_⟩
      simp
set_option maxRecDepth 100000 in
set_option maxHeartbeats 4000000 in
theorem stmt5W (s : St) (hop : s.op = 5) (hx : ∀ e ∈ s.exprs, ExW e) (hb1 : ∀ x ∈ s.body, StW x) (hb2 : ∀ x ∈ s.els, StW x) : StW s := by
  refine WrC.intro fun S d i j p h hb => ?_
  have T : ∀ m : Int, (s.op == m) = ((5 : Int) == m) := fun m => by rw [hop]
  have hR := restW s hb1 hb2
  have htk : s.tk = [(⟨#[100, 114, 111, 112]⟩ : ByteArray), s.name, (⟨#[59]⟩ : ByteArray)] ++ (s.exprs.flatMap Ex.tk ++ restTk s.op (s.body.flatMap St.tk) s.els.length (s.els.flatMap St.tk)) := by
    rw [stTk_eq]; unfold stTk1 headTk; rw [List.flatMap_def (f := Ex.tk)]; simp [hop]
  rw [htk] at hb ⊢
  simp only [tl_cons, tl_append, tl_nil] at hb
  generalize hRt : restTk s.op (s.body.flatMap St.tk) s.els.length (s.els.flatMap St.tk) = R at *
  refine ADet.okA Tryz.call91 1 10 rfl rfl fun hok => ?_
  have hlen := okl hok
  refine ADet.intro mixed Tryz.call91 Tryz.func91 rfl ?_
  · simp [Tryz.ntmps91, T]
    refine awp_draw [] (by kernel_rfl) (by kernel_rfl) ?_
    simp [T]
    refine ⟨_, _, (putV [(⟨#[100, 114, 111, 112]⟩ : ByteArray), s.name, (⟨#[59]⟩ : ByteArray)] (by rfl)).at h _ _ (by simp [tl_append, tl_cons, tl_nil]; omega), ?_⟩
    simp [T]
    refine awp_loop (fun q : Nat => q ≤ s.exprs.length) (fun q => ([.ptr (d + 1) i 0, .any, .any, .ptr 0 0 0] ++ (List.replicate 150 .any ++ [.p (.sl 8 (s.exprs.map Ex.enc)), I s.exprs.length, I q, .any, .any, .any, .any, .any, .any, .any, .any, .any, .any]))) (fun q => [.cells (stU s) 81, .dead] :: upd S d i j (putT ([(⟨#[100, 114, 111, 112]⟩ : ByteArray), s.name, (⟨#[59]⟩ : ByteArray)] ++ (s.exprs.take q).flatMap Ex.tk) p)) (fun q => s.exprs.length - q) 0 (Nat.zero_le _) ?_ ?_ ?_
    · simp
    · simp
    rintro q hq
    by_cases hlt : q < s.exprs.length
    · have h1 := tl_take_flat Ex.tk s.exprs (q + 1)
      have hT := take_flat_snoc Ex.tk s.exprs hlt
      have hs := hx _ (List.getElem_mem hlt) 0
      rw [hT, tl_append] at h1
      rw [parTk_0] at hs
      generalize hy : s.exprs[q] = e at *
      simp [hlt, hy, exEnc]
      refine ⟨_, _, hs.at h _ _ (by (try simp [tl_append, tl_cons, tl_nil]); omega), ?_⟩
      simp [hlt]
      exact ⟨q + 1, hlt, by omega, wrap_succ hlt, by first | (rw [hT]; done) | (rw [hT]; simp; done)⟩
    · have ht : s.exprs.take q = s.exprs := List.take_of_length_le (by omega)
      simp [hlt, ht]
      refine ⟨_, _, hR.at h _ _ (by (try simp [tl_append, tl_cons, tl_nil]); omega), ?_⟩
      simp
set_option maxRecDepth 100000 in
set_option maxHeartbeats 4000000 in
theorem stmt6W (s : St) (hop : s.op = 6) (hx : ∀ e ∈ s.exprs, ExW e) (hb1 : ∀ x ∈ s.body, StW x) (hb2 : ∀ x ∈ s.els, StW x) : StW s := by
  refine WrC.intro fun S d i j p h hb => ?_
  have T : ∀ m : Int, (s.op == m) = ((6 : Int) == m) := fun m => by rw [hop]
  have hR := restW s hb1 hb2
  have htk : s.tk = [(⟨#[105, 102]⟩ : ByteArray)] ++ (s.exprs.flatMap Ex.tk ++ restTk s.op (s.body.flatMap St.tk) s.els.length (s.els.flatMap St.tk)) := by
    rw [stTk_eq]; unfold stTk1 headTk; rw [List.flatMap_def (f := Ex.tk)]; simp [hop]
  rw [htk] at hb ⊢
  simp only [tl_cons, tl_append, tl_nil] at hb
  generalize hRt : restTk s.op (s.body.flatMap St.tk) s.els.length (s.els.flatMap St.tk) = R at *
  refine ADet.okA Tryz.call91 1 10 rfl rfl fun hok => ?_
  have hlen := okl hok
  refine ADet.intro mixed Tryz.call91 Tryz.func91 rfl ?_
  · simp [Tryz.ntmps91, T]
    refine ⟨_, _, (putV [(⟨#[105, 102]⟩ : ByteArray)] (by rfl)).at h _ _ (by simp [tl_append, tl_cons, tl_nil]; omega), ?_⟩
    simp [T]
    refine awp_loop (fun q : Nat => q ≤ s.exprs.length) (fun q => ([.ptr (d + 1) i 0, .any, .any, .ptr 0 0 0] ++ (List.replicate 150 .any ++ [.p (.sl 8 (s.exprs.map Ex.enc)), I s.exprs.length, I q, .any, .any, .any, .any, .any, .any, .any, .any, .any, .any]))) (fun q => [.cells (stU s) 81, .dead] :: upd S d i j (putT ([(⟨#[105, 102]⟩ : ByteArray)] ++ (s.exprs.take q).flatMap Ex.tk) p)) (fun q => s.exprs.length - q) 0 (Nat.zero_le _) ?_ ?_ ?_
    · simp
    · simp
    rintro q hq
    by_cases hlt : q < s.exprs.length
    · have h1 := tl_take_flat Ex.tk s.exprs (q + 1)
      have hT := take_flat_snoc Ex.tk s.exprs hlt
      have hs := hx _ (List.getElem_mem hlt) 0
      rw [hT, tl_append] at h1
      rw [parTk_0] at hs
      generalize hy : s.exprs[q] = e at *
      simp [hlt, hy, exEnc]
      refine ⟨_, _, hs.at h _ _ (by (try simp [tl_append, tl_cons, tl_nil]); omega), ?_⟩
      simp [hlt]
      exact ⟨q + 1, hlt, by omega, wrap_succ hlt, by first | (rw [hT]; done) | (rw [hT]; simp; done)⟩
    · have ht : s.exprs.take q = s.exprs := List.take_of_length_le (by omega)
      simp [hlt, ht]
      refine ⟨_, _, hR.at h _ _ (by (try simp [tl_append, tl_cons, tl_nil]); omega), ?_⟩
      simp
set_option maxRecDepth 100000 in
set_option maxHeartbeats 4000000 in
theorem stmt7W (s : St) (hop : s.op = 7) (hx : ∀ e ∈ s.exprs, ExW e) (hb1 : ∀ x ∈ s.body, StW x) (hb2 : ∀ x ∈ s.els, StW x) : StW s := by
  refine WrC.intro fun S d i j p h hb => ?_
  have T : ∀ m : Int, (s.op == m) = ((7 : Int) == m) := fun m => by rw [hop]
  have hR := restW s hb1 hb2
  have htk : s.tk = [(⟨#[119, 104, 105, 108, 101]⟩ : ByteArray)] ++ (s.exprs.flatMap Ex.tk ++ restTk s.op (s.body.flatMap St.tk) s.els.length (s.els.flatMap St.tk)) := by
    rw [stTk_eq]; unfold stTk1 headTk; rw [List.flatMap_def (f := Ex.tk)]; simp [hop]
  rw [htk] at hb ⊢
  simp only [tl_cons, tl_append, tl_nil] at hb
  generalize hRt : restTk s.op (s.body.flatMap St.tk) s.els.length (s.els.flatMap St.tk) = R at *
  refine ADet.okA Tryz.call91 1 10 rfl rfl fun hok => ?_
  have hlen := okl hok
  refine ADet.intro mixed Tryz.call91 Tryz.func91 rfl ?_
  · simp [Tryz.ntmps91, T]
    refine ⟨_, _, (putV [(⟨#[119, 104, 105, 108, 101]⟩ : ByteArray)] (by rfl)).at h _ _ (by simp [tl_append, tl_cons, tl_nil]; omega), ?_⟩
    simp [T]
    refine awp_loop (fun q : Nat => q ≤ s.exprs.length) (fun q => ([.ptr (d + 1) i 0, .any, .any, .ptr 0 0 0] ++ (List.replicate 150 .any ++ [.p (.sl 8 (s.exprs.map Ex.enc)), I s.exprs.length, I q, .any, .any, .any, .any, .any, .any, .any, .any, .any, .any]))) (fun q => [.cells (stU s) 81, .dead] :: upd S d i j (putT ([(⟨#[119, 104, 105, 108, 101]⟩ : ByteArray)] ++ (s.exprs.take q).flatMap Ex.tk) p)) (fun q => s.exprs.length - q) 0 (Nat.zero_le _) ?_ ?_ ?_
    · simp
    · simp
    rintro q hq
    by_cases hlt : q < s.exprs.length
    · have h1 := tl_take_flat Ex.tk s.exprs (q + 1)
      have hT := take_flat_snoc Ex.tk s.exprs hlt
      have hs := hx _ (List.getElem_mem hlt) 0
      rw [hT, tl_append] at h1
      rw [parTk_0] at hs
      generalize hy : s.exprs[q] = e at *
      simp [hlt, hy, exEnc]
      refine ⟨_, _, hs.at h _ _ (by (try simp [tl_append, tl_cons, tl_nil]); omega), ?_⟩
      simp [hlt]
      exact ⟨q + 1, hlt, by omega, wrap_succ hlt, by first | (rw [hT]; done) | (rw [hT]; simp; done)⟩
    · have ht : s.exprs.take q = s.exprs := List.take_of_length_le (by omega)
      simp [hlt, ht]
      refine ⟨_, _, hR.at h _ _ (by (try simp [tl_append, tl_cons, tl_nil]); omega), ?_⟩
      simp
set_option maxRecDepth 100000 in
set_option maxHeartbeats 4000000 in
theorem stmt8W (s : St) (hop : s.op = 8) (hx : ∀ e ∈ s.exprs, ExW e) (hb1 : ∀ x ∈ s.body, StW x) (hb2 : ∀ x ∈ s.els, StW x) (ha : ∀ a ∈ s.arms, WrC 120 [arV a] a.tk) : StW s := by
  refine WrC.intro fun S d i j p h hb => ?_
  have T : ∀ m : Int, (s.op == m) = ((8 : Int) == m) := fun m => by rw [hop]
  have hR := restW s hb1 hb2
  have htk : s.tk = ((⟨#[109, 97, 116, 99, 104]⟩ : ByteArray) :: s.name :: (⟨#[58]⟩ : ByteArray) :: s.second :: (⟨#[123]⟩ : ByteArray) :: (s.arms.flatMap Ar.tk ++ [(⟨#[125]⟩ : ByteArray)])) ++ (s.exprs.flatMap Ex.tk ++ restTk s.op (s.body.flatMap St.tk) s.els.length (s.els.flatMap St.tk)) := by
    rw [stTk_eq]; unfold stTk1 headTk; rw [List.flatMap_def (f := Ex.tk)]; simp [hop]
  rw [htk] at hb ⊢
  simp only [tl_cons, tl_append, tl_nil] at hb
  generalize hRt : restTk s.op (s.body.flatMap St.tk) s.els.length (s.els.flatMap St.tk) = R at *
  refine ADet.okA Tryz.call91 1 10 rfl rfl fun hok => ?_
  have hlen := okl hok
  refine ADet.okA Tryz.call91 1 13 rfl rfl fun hok2 => ?_
  have hlen2 := okl hok2
  refine ADet.intro mixed Tryz.call91 Tryz.func91 rfl ?_
  · simp [Tryz.ntmps91, T]
    refine awp_draw [] (by kernel_rfl) (by kernel_rfl) ?_
    simp [T]
    refine ⟨_, _, (putV [(⟨#[109, 97, 116, 99, 104]⟩ : ByteArray), s.name, (⟨#[58]⟩ : ByteArray), s.second, (⟨#[123]⟩ : ByteArray)] (by rfl)).at h _ _ (by simp [tl_append, tl_cons, tl_nil]; omega), ?_⟩
    simp [T]
    refine awp_loop (fun q : Nat => q ≤ s.arms.length) (fun q => ([.ptr (d + 1) i 0, .any, .any, .ptr 0 0 0] ++ (List.replicate 81 .any ++ ([.p (.sl 3 (s.arms.map Ar.enc)), I s.arms.length, I q] ++ List.replicate 79 .any)))) (fun q => [.cells (stU s) 81, .dead] :: upd S d i j (putT ((⟨#[109, 97, 116, 99, 104]⟩ : ByteArray) :: s.name :: (⟨#[58]⟩ : ByteArray) :: s.second :: (⟨#[123]⟩ : ByteArray) :: (s.arms.take q).flatMap Ar.tk) p)) (fun q => s.arms.length - q) 0 (Nat.zero_le _) ?_ ?_ ?_
    · simp
    · simp
    rintro q hq
    by_cases hlt : q < s.arms.length
    · have h1 := tl_take_flat Ar.tk s.arms (q + 1)
      have hT := take_flat_snoc Ar.tk s.arms hlt
      have hs := ha _ (List.getElem_mem hlt)
      rw [hT, tl_append] at h1
      generalize hy : s.arms[q] = a at *
      simp [hlt, hy, Ar.enc]
      refine ⟨_, _, hs.at h _ _ (by simp [tl_append, tl_cons, tl_nil]; omega), ?_⟩
      simp [hlt]
      exact ⟨q + 1, hlt, by omega, wrap_succ hlt, by first | (rw [hT]; done) | (rw [hT]; simp; done)⟩
    have ht : s.arms.take q = s.arms := List.take_of_length_le (by omega)
    simp [hlt, ht]
    refine ⟨_, _, (putV [(⟨#[125]⟩ : ByteArray)] (by rfl)).at h _ _ (by simp [tl_append, tl_cons, tl_nil]; omega), ?_⟩
    simp [T]
    refine awp_loop (fun q : Nat => q ≤ s.exprs.length) (fun q => ([.ptr (d + 1) i 0, .any, .any, .ptr 0 0 0] ++ (List.replicate 150 .any ++ [.p (.sl 8 (s.exprs.map Ex.enc)), I s.exprs.length, I q, .any, .any, .any, .any, .any, .any, .any, .any, .any, .any]))) (fun q => [.cells (stU s) 81, .dead, .dead] :: upd S d i j (putT (((⟨#[109, 97, 116, 99, 104]⟩ : ByteArray) :: s.name :: (⟨#[58]⟩ : ByteArray) :: s.second :: (⟨#[123]⟩ : ByteArray) :: (s.arms.flatMap Ar.tk ++ [(⟨#[125]⟩ : ByteArray)])) ++ (s.exprs.take q).flatMap Ex.tk) p)) (fun q => s.exprs.length - q) 0 (Nat.zero_le _) ?_ ?_ ?_
    · simp
    · simp
    rintro q hq
    by_cases hlt : q < s.exprs.length
    · have h1 := tl_take_flat Ex.tk s.exprs (q + 1)
      have hT := take_flat_snoc Ex.tk s.exprs hlt
      have hs := hx _ (List.getElem_mem hlt) 0
      rw [hT, tl_append] at h1
      rw [parTk_0] at hs
      generalize hy : s.exprs[q] = e at *
      simp [hlt, hy, exEnc]
      refine ⟨_, _, hs.at h _ _ (by (try simp [tl_append, tl_cons, tl_nil]); omega), ?_⟩
      simp [hlt]
      exact ⟨q + 1, hlt, by omega, wrap_succ hlt, by first | (rw [hT]; done) | (rw [hT]; simp; done)⟩
    · have ht : s.exprs.take q = s.exprs := List.take_of_length_le (by omega)
      simp [hlt, ht]
      refine ⟨_, _, hR.at h _ _ (by (try simp [tl_append, tl_cons, tl_nil]); omega), ?_⟩
      simp
set_option maxRecDepth 100000 in
set_option maxHeartbeats 4000000 in
theorem stmt9W (s : St) (hop : s.op = 9) (hx : ∀ e ∈ s.exprs, ExW e) (hb1 : ∀ x ∈ s.body, StW x) (hb2 : ∀ x ∈ s.els, StW x) : StW s := by
  refine WrC.intro fun S d i j p h hb => ?_
  have T : ∀ m : Int, (s.op == m) = ((9 : Int) == m) := fun m => by rw [hop]
  have hR := restW s hb1 hb2
  have htk : s.tk = [(⟨#[115, 99, 111, 112, 101]⟩ : ByteArray)] ++ (s.exprs.flatMap Ex.tk ++ restTk s.op (s.body.flatMap St.tk) s.els.length (s.els.flatMap St.tk)) := by
    rw [stTk_eq]; unfold stTk1 headTk; rw [List.flatMap_def (f := Ex.tk)]; simp [hop]
  rw [htk] at hb ⊢
  simp only [tl_cons, tl_append, tl_nil] at hb
  generalize hRt : restTk s.op (s.body.flatMap St.tk) s.els.length (s.els.flatMap St.tk) = R at *
  refine ADet.okA Tryz.call91 1 10 rfl rfl fun hok => ?_
  have hlen := okl hok
  refine ADet.intro mixed Tryz.call91 Tryz.func91 rfl ?_
  · simp [Tryz.ntmps91, T]
    refine ⟨_, _, (putV [(⟨#[115, 99, 111, 112, 101]⟩ : ByteArray)] (by rfl)).at h _ _ (by simp [tl_append, tl_cons, tl_nil]; omega), ?_⟩
    simp [T]
    refine awp_loop (fun q : Nat => q ≤ s.exprs.length) (fun q => ([.ptr (d + 1) i 0, .any, .any, .ptr 0 0 0] ++ (List.replicate 150 .any ++ [.p (.sl 8 (s.exprs.map Ex.enc)), I s.exprs.length, I q, .any, .any, .any, .any, .any, .any, .any, .any, .any, .any]))) (fun q => [.cells (stU s) 81, .dead] :: upd S d i j (putT ([(⟨#[115, 99, 111, 112, 101]⟩ : ByteArray)] ++ (s.exprs.take q).flatMap Ex.tk) p)) (fun q => s.exprs.length - q) 0 (Nat.zero_le _) ?_ ?_ ?_
    · simp
    · simp
    rintro q hq
    by_cases hlt : q < s.exprs.length
    · have h1 := tl_take_flat Ex.tk s.exprs (q + 1)
      have hT := take_flat_snoc Ex.tk s.exprs hlt
      have hs := hx _ (List.getElem_mem hlt) 0
      rw [hT, tl_append] at h1
      rw [parTk_0] at hs
      generalize hy : s.exprs[q] = e at *
      simp [hlt, hy, exEnc]
      refine ⟨_, _, hs.at h _ _ (by (try simp [tl_append, tl_cons, tl_nil]); omega), ?_⟩
      simp [hlt]
      exact ⟨q + 1, hlt, by omega, wrap_succ hlt, by first | (rw [hT]; done) | (rw [hT]; simp; done)⟩
    · have ht : s.exprs.take q = s.exprs := List.take_of_length_le (by omega)
      simp [hlt, ht]
      refine ⟨_, _, hR.at h _ _ (by (try simp [tl_append, tl_cons, tl_nil]); omega), ?_⟩
      simp
set_option maxRecDepth 100000 in
set_option maxHeartbeats 4000000 in
theorem stmt11W (s : St) (hop : s.op = 11) (hx : ∀ e ∈ s.exprs, ExW e) (hb1 : ∀ x ∈ s.body, StW x) (hb2 : ∀ x ∈ s.els, StW x) : StW s := by
  refine WrC.intro fun S d i j p h hb => ?_
  have T : ∀ m : Int, (s.op == m) = ((11 : Int) == m) := fun m => by rw [hop]
  have hR := restW s hb1 hb2
  have htk : s.tk = ((⟨#[108, 111, 99, 107]⟩ : ByteArray) :: (s.place.tk ++ [(⟨#[97, 115]⟩ : ByteArray), s.name])) ++ (s.exprs.flatMap Ex.tk ++ restTk s.op (s.body.flatMap St.tk) s.els.length (s.els.flatMap St.tk)) := by
    rw [stTk_eq]; unfold stTk1 headTk; rw [List.flatMap_def (f := Ex.tk)]; simp [hop]
  rw [htk] at hb ⊢
  simp only [tl_cons, tl_append, tl_nil] at hb
  generalize hRt : restTk s.op (s.body.flatMap St.tk) s.els.length (s.els.flatMap St.tk) = R at *
  refine ADet.okA Tryz.call91 1 10 rfl rfl fun hok => ?_
  have hlen := okl hok
  refine ADet.intro mixed Tryz.call91 Tryz.func91 rfl ?_
  · simp [Tryz.ntmps91, T]
    refine ⟨_, _, (putV [(⟨#[108, 111, 99, 107]⟩ : ByteArray)] (by rfl)).at h _ _ (by simp [tl_append, tl_cons, tl_nil]; omega), ?_⟩
    simp [T]
    refine ⟨_, _, (placeW s.place).at h _ _ (by simp [tl_append, tl_cons, tl_nil]; omega), ?_⟩
    simp [T]
    refine awp_draw [] (by kernel_rfl) (by kernel_rfl) ?_
    simp [T]
    refine ⟨_, _, (putV [(⟨#[97, 115]⟩ : ByteArray), s.name] (by rfl)).at h _ _ (by simp [tl_append, tl_cons, tl_nil]; omega), ?_⟩
    simp [T]
    refine awp_loop (fun q : Nat => q ≤ s.exprs.length) (fun q => ([.ptr (d + 1) i 0, .any, .any, .ptr 0 0 0] ++ (List.replicate 150 .any ++ [.p (.sl 8 (s.exprs.map Ex.enc)), I s.exprs.length, I q, .any, .any, .any, .any, .any, .any, .any, .any, .any, .any]))) (fun q => [.cells (stU s) 81, .dead, .dead] :: upd S d i j (putT (((⟨#[108, 111, 99, 107]⟩ : ByteArray) :: (s.place.tk ++ [(⟨#[97, 115]⟩ : ByteArray), s.name])) ++ (s.exprs.take q).flatMap Ex.tk) p)) (fun q => s.exprs.length - q) 0 (Nat.zero_le _) ?_ ?_ ?_
    · simp
    · simp
    rintro q hq
    by_cases hlt : q < s.exprs.length
    · have h1 := tl_take_flat Ex.tk s.exprs (q + 1)
      have hT := take_flat_snoc Ex.tk s.exprs hlt
      have hs := hx _ (List.getElem_mem hlt) 0
      rw [hT, tl_append] at h1
      rw [parTk_0] at hs
      generalize hy : s.exprs[q] = e at *
      simp [hlt, hy, exEnc]
      refine ⟨_, _, hs.at h _ _ (by (try simp [tl_append, tl_cons, tl_nil]); omega), ?_⟩
      simp [hlt]
      exact ⟨q + 1, hlt, by omega, wrap_succ hlt, by first | (rw [hT]; done) | (rw [hT]; simp; done)⟩
    · have ht : s.exprs.take q = s.exprs := List.take_of_length_le (by omega)
      simp [hlt, ht]
      refine ⟨_, _, hR.at h _ _ (by (try simp [tl_append, tl_cons, tl_nil]); omega), ?_⟩
      simp
set_option maxRecDepth 100000 in
set_option maxHeartbeats 4000000 in
theorem stmt12W (s : St) (hop : s.op = 12) (hx : ∀ e ∈ s.exprs, ExW e) (hb1 : ∀ x ∈ s.body, StW x) (hb2 : ∀ x ∈ s.els, StW x) (hk : WrC 40 [tyV s.type] s.type.tk) (hi1 : -9223372036854775808 ≤ s.int) (hi2 : s.int ≤ 9223372036854775807) : StW s := by
  refine WrC.intro fun S d i j p h hb => ?_
  have T : ∀ m : Int, (s.op == m) = ((12 : Int) == m) := fun m => by rw [hop]
  have hR := restW s hb1 hb2
  have htk : s.tk = ((⟨#[99, 104, 97, 110]⟩ : ByteArray) :: (⟨#[60]⟩ : ByteArray) :: (s.type.tk ++ [(⟨#[62]⟩ : ByteArray), (⟨#[40]⟩ : ByteArray), itoaB s.int, (⟨#[41]⟩ : ByteArray), (⟨#[97, 115]⟩ : ByteArray), s.name, (⟨#[44]⟩ : ByteArray), s.second, (⟨#[59]⟩ : ByteArray)])) ++ (s.exprs.flatMap Ex.tk ++ restTk s.op (s.body.flatMap St.tk) s.els.length (s.els.flatMap St.tk)) := by
    rw [stTk_eq]; unfold stTk1 headTk; rw [List.flatMap_def (f := Ex.tk)]; simp [hop]
  rw [htk] at hb ⊢
  simp only [tl_cons, tl_append, tl_nil] at hb
  generalize hRt : restTk s.op (s.body.flatMap St.tk) s.els.length (s.els.flatMap St.tk) = R at *
  refine ADet.okA Tryz.call91 1 10 rfl rfl fun hok => ?_
  have hlen := okl hok
  refine ADet.intro mixed Tryz.call91 Tryz.func91 rfl ?_
  · simp [Tryz.ntmps91, T]
    refine ⟨_, _, (putV [(⟨#[99, 104, 97, 110]⟩ : ByteArray), (⟨#[60]⟩ : ByteArray)] (by rfl)).at h _ _ (by simp [tl_append, tl_cons, tl_nil]; omega), ?_⟩
    simp [T]
    refine ⟨_, _, hk.at h _ _ (by simp [tl_append, tl_cons, tl_nil]; omega), ?_⟩
    simp [T]
    refine awp_draw [(7, 5), (9, 5)] (by kernel_rfl) (by kernel_rfl) ?_
    simp [T]
    refine ⟨_, _, formatInt s.int hi1 hi2 _, ?_⟩
    simp [T]
    refine ⟨_, _, (putV [(⟨#[62]⟩ : ByteArray), (⟨#[40]⟩ : ByteArray), itoaB s.int, (⟨#[41]⟩ : ByteArray), (⟨#[97, 115]⟩ : ByteArray), s.name, (⟨#[44]⟩ : ByteArray), s.second, (⟨#[59]⟩ : ByteArray)] (by rfl)).at h _ _ (by simp [tl_append, tl_cons, tl_nil]; omega), ?_⟩
    simp [T]
    refine awp_loop (fun q : Nat => q ≤ s.exprs.length) (fun q => ([.ptr (d + 1) i 0, .any, .any, .ptr 0 0 0] ++ (List.replicate 150 .any ++ [.p (.sl 8 (s.exprs.map Ex.enc)), I s.exprs.length, I q, .any, .any, .any, .any, .any, .any, .any, .any, .any, .any]))) (fun q => [.cells (stU s) 81, .dead, .dead] :: upd S d i j (putT (((⟨#[99, 104, 97, 110]⟩ : ByteArray) :: (⟨#[60]⟩ : ByteArray) :: (s.type.tk ++ [(⟨#[62]⟩ : ByteArray), (⟨#[40]⟩ : ByteArray), itoaB s.int, (⟨#[41]⟩ : ByteArray), (⟨#[97, 115]⟩ : ByteArray), s.name, (⟨#[44]⟩ : ByteArray), s.second, (⟨#[59]⟩ : ByteArray)])) ++ (s.exprs.take q).flatMap Ex.tk) p)) (fun q => s.exprs.length - q) 0 (Nat.zero_le _) ?_ ?_ ?_
    · simp
    · simp
    rintro q hq
    by_cases hlt : q < s.exprs.length
    · have h1 := tl_take_flat Ex.tk s.exprs (q + 1)
      have hT := take_flat_snoc Ex.tk s.exprs hlt
      have hs := hx _ (List.getElem_mem hlt) 0
      rw [hT, tl_append] at h1
      rw [parTk_0] at hs
      generalize hy : s.exprs[q] = e at *
      simp [hlt, hy, exEnc]
      refine ⟨_, _, hs.at h _ _ (by (try simp [tl_append, tl_cons, tl_nil]); omega), ?_⟩
      simp [hlt]
      exact ⟨q + 1, hlt, by omega, wrap_succ hlt, by first | (rw [hT]; done) | (rw [hT]; simp; done)⟩
    · have ht : s.exprs.take q = s.exprs := List.take_of_length_le (by omega)
      simp [hlt, ht]
      refine ⟨_, _, hR.at h _ _ (by (try simp [tl_append, tl_cons, tl_nil]); omega), ?_⟩
      simp
set_option maxRecDepth 100000 in
set_option maxHeartbeats 4000000 in
theorem stmt13W (s : St) (hop : s.op = 13) (hx : ∀ e ∈ s.exprs, ExW e) (hb1 : ∀ x ∈ s.body, StW x) (hb2 : ∀ x ∈ s.els, StW x) : StW s := by
  refine WrC.intro fun S d i j p h hb => ?_
  have T : ∀ m : Int, (s.op == m) = ((13 : Int) == m) := fun m => by rw [hop]
  have hR := restW s hb1 hb2
  have htk : s.tk = (s.exprs.flatMap Ex.tk ++ restTk s.op (s.body.flatMap St.tk) s.els.length (s.els.flatMap St.tk)) := by
    rw [stTk_eq]; unfold stTk1 headTk; rw [List.flatMap_def (f := Ex.tk)]; simp [hop]
  rw [htk] at hb ⊢
  simp only [tl_cons, tl_append, tl_nil] at hb
  generalize hRt : restTk s.op (s.body.flatMap St.tk) s.els.length (s.els.flatMap St.tk) = R at *
  refine ADet.okA Tryz.call91 1 10 rfl rfl fun hok => ?_
  have hlen := okl hok
  refine ADet.intro mixed Tryz.call91 Tryz.func91 rfl ?_
  · simp [Tryz.ntmps91, T]
    refine awp_loop (fun q : Nat => q ≤ s.exprs.length) (fun q => ([.ptr (d + 1) i 0, .any, .any, .ptr 0 0 0] ++ (List.replicate 150 .any ++ [.p (.sl 8 (s.exprs.map Ex.enc)), I s.exprs.length, I q, .any, .any, .any, .any, .any, .any, .any, .any, .any, .any]))) (fun q => [.cells (stU s) 81] :: upd S d i j (putT ((s.exprs.take q).flatMap Ex.tk) p)) (fun q => s.exprs.length - q) 0 (Nat.zero_le _) ?_ ?_ ?_
    · simp
    · simp
    rintro q hq
    by_cases hlt : q < s.exprs.length
    · have h1 := tl_take_flat Ex.tk s.exprs (q + 1)
      have hT := take_flat_snoc Ex.tk s.exprs hlt
      have hs := hx _ (List.getElem_mem hlt) 0
      rw [hT, tl_append] at h1
      rw [parTk_0] at hs
      generalize hy : s.exprs[q] = e at *
      simp [hlt, hy, exEnc]
      refine ⟨_, _, hs.at h _ _ (by (try simp [tl_append, tl_cons, tl_nil]); omega), ?_⟩
      simp [hlt]
      exact ⟨q + 1, hlt, by omega, wrap_succ hlt, by first | (rw [hT]; done) | (rw [hT]; simp; done)⟩
    · have ht : s.exprs.take q = s.exprs := List.take_of_length_le (by omega)
      simp [hlt, ht]
      refine ⟨_, _, hR.at h _ _ (by (try simp [tl_append, tl_cons, tl_nil]); omega), ?_⟩
      simp
set_option maxRecDepth 100000 in
set_option maxHeartbeats 1000000 in
theorem stmt10W (s : St) (hop : s.op = 10) (hs : WrC 121 [stmV s] s.tk) : StW s := by
  refine WrC.intro fun S d i j p h hb => ?_
  have T : ∀ m : Int, (s.op == m) = ((10 : Int) == m) := fun m => by rw [hop]
  refine ADet.intro mixed Tryz.call91 Tryz.func91 rfl ?_
  simp [Tryz.ntmps91, T]
  refine ⟨_, _, hs.at h _ _ (by simp only [tl_nil]; omega), ?_⟩
  simp
theorem stmtW : ∀ (s : St) (d0 : Int), s.whole d0 = true → StRg s → StW s := by
  refine St.ind fun s ih1 ih2 ih3 d0 hw hr => ?_
  obtain ⟨⟨ho1, ho2⟩, hc, ⟨hn, hxl, hnl, hal⟩, hty, hxw, hbw, hew, haw⟩ := st_split hw
  obtain ⟨⟨hi1, hi2⟩, hxr, hbr, her, har⟩ := (stRg_iff s).1 hr
  have hx : ∀ e ∈ s.exprs, ExW e := fun e he => exprW e _ (hxw e he) (hxr e he)
  have hb1 : ∀ x ∈ s.body, StW x := fun x hx => ih1 x hx _ (hbw x hx) (hbr x hx)
  have hb2 : ∀ x ∈ s.els, StW x := fun x hx => ih2 x hx _ (hew x hx) (her x hx)
  have ha : ∀ a ∈ s.arms, WrC 120 [arV a] a.tk := fun a ha => armW a fun x hx => ih3 a ha x hx _ (haw a ha x hx) (har a ha x hx)
  by_cases h1 : s.op = 1
  · exact stmt1W s h1 hx hb1 hb2
  by_cases h2 : s.op = 2
  · exact stmt2W s h2 hx hb1 hb2
  by_cases h3 : s.op = 3
  · exact stmt3W s h3 hx hb1 hb2
  by_cases h4 : s.op = 4
  · exact stmt4W s h4 hx hb1 hb2
  by_cases h5 : s.op = 5
  · exact stmt5W s h5 hx hb1 hb2
  by_cases h6 : s.op = 6
  · exact stmt6W s h6 hx hb1 hb2
  by_cases h7 : s.op = 7
  · exact stmt7W s h7 hx hb1 hb2
  by_cases h8 : s.op = 8
  · exact stmt8W s h8 hx hb1 hb2 ha
  by_cases h9 : s.op = 9
  · exact stmt9W s h9 hx hb1 hb2
  by_cases h11 : s.op = 11
  · exact stmt11W s h11 hx hb1 hb2
  by_cases h12 : s.op = 12
  · exact stmt12W s h12 hx hb1 hb2 (kindC s.type _ (hty h12)) hi1 hi2
  by_cases h13 : s.op = 13
  · exact stmt13W s h13 hx hb1 hb2
  have h10 : s.op = 10 := by omega
  exact stmt10W s h10 (spawnW s h10 (by simp [fmExprs, h10] at hn; omega) (by omega) hx hb1)
end Go.Proofs.YtlnoacoanfhdcaaGreatDoor
