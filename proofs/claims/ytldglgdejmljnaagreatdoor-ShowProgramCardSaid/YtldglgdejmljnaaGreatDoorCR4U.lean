/- The reference's tokens: a statement (printed by a program of my own). No statement is proved here. -/
import Derived.Test.YtldglgdejmljnaaGreatDoorCR4S
import Derived.Test.YtldglgdejmljnaaGreatDoorCShSt
import Derived.Test.YtldglgdejmljnaaGreatDoorMRd
namespace Go.Proofs.YtldglgdejmljnaaGreatDoor
open Go.RowKit
attribute [local simp] List.replicate List.range List.range.loop resA resOne retA AV.cuts AV.cut AObj.cut trim wkR wkT wkL wkN wkNR wkNL virtL virtO virt_get List.find? nextD_eq awpD_nil awpD_cons LCp LCl refL
set_option linter.unusedVariables false
set_option linter.unusedSimpArgs false
set_option maxRecDepth 100000 in
set_option maxHeartbeats 8000000 in
theorem r4Stmt1 (s : St) (hop : s.op = 1) (x : Ex) (hexs : s.exprs = [x]) (hx : R4 x) (hb : tl s.tk ≤ 3000000000) : R4S s := by
  intro S
  have T : ∀ m : Int, (s.op == m) = ((1 : Int) == m) := fun m => by rw [hop]
  have htk0 : s.tk = [(⟨#[108, 101, 116]⟩ : ByteArray), s.name, (⟨#[61]⟩ : ByteArray)] ++ (s.exprs.flatMap Ex.tk ++ restTk s.op (s.body.flatMap St.tk) s.els.length (s.els.flatMap St.tk)) := by
    rw [stTk_eq]; unfold stTk1 headTk; rw [List.flatMap_def (f := Ex.tk)]; simp [hop]
  have htk : s.tk = [(⟨#[108, 101, 116]⟩ : ByteArray), s.name, (⟨#[61]⟩ : ByteArray)] ++ x.tk ++ [(⟨#[59]⟩ : ByteArray)] := by
    rw [htk0, hexs]; unfold restTk; simp [hop]
  have hln := len_tl s.tk
  rw [htk] at hln hb ⊢
  simp only [tl_cons, tl_append, tl_nil, tl_brace] at hb
  (try simp only [List.length_append, List.length_cons, List.length_nil] at hln)
  (try simp only [tl_cons, tl_append, tl_nil, tl_brace] at hln)
  unfold R4 at hx
  generalize x.tk = et at *
  refine ADet.intro mixed Tryz.call124 Tryz.func124 rfl ?_
  simp [Tryz.ntmps124]
  refine ⟨_, _, r4Head1 s hop _ _, ?_⟩
  (try simp [strs, T, hexs, exEnc])
  repeat (rw [if_pos (by omega)]; (try simp [strs, T, hexs]))
  refine ⟨_, _, hx _, ?_⟩
  simp [strs, T, hexs]
  repeat (rw [if_pos (by omega)]; (try simp [strs, T, hexs]))
set_option maxRecDepth 100000 in
set_option maxHeartbeats 8000000 in
theorem r4Stmt2 (s : St) (hop : s.op = 2) (x : Ex) (hexs : s.exprs = [x]) (hx : R4 x) (hnn : s.names.length ≤ 20000) (hb : tl s.tk ≤ 3000000000) : R4S s := by
  intro S
  have T : ∀ m : Int, (s.op == m) = ((2 : Int) == m) := fun m => by rw [hop]
  have htk0 : s.tk = ((⟨#[108, 101, 116]⟩ : ByteArray) :: s.name :: (⟨#[123]⟩ : ByteArray) :: (commas (s.names.map fun s => [s]) ++ [(⟨#[125]⟩ : ByteArray), (⟨#[61]⟩ : ByteArray)])) ++ (s.exprs.flatMap Ex.tk ++ restTk s.op (s.body.flatMap St.tk) s.els.length (s.els.flatMap St.tk)) := by
    rw [stTk_eq]; unfold stTk1 headTk; rw [List.flatMap_def (f := Ex.tk)]; simp [hop]
  have htk : s.tk = ((⟨#[108, 101, 116]⟩ : ByteArray) :: s.name :: (⟨#[123]⟩ : ByteArray) :: (commas (s.names.map fun s => [s]) ++ [(⟨#[125]⟩ : ByteArray), (⟨#[61]⟩ : ByteArray)])) ++ x.tk ++ [(⟨#[59]⟩ : ByteArray)] := by
    rw [htk0, hexs]; unfold restTk; simp [hop]
  have hln := len_tl s.tk
  rw [htk] at hln hb ⊢
  simp only [tl_cons, tl_append, tl_nil, tl_brace] at hb
  (try simp only [List.length_append, List.length_cons, List.length_nil] at hln)
  (try simp only [tl_cons, tl_append, tl_nil, tl_brace] at hln)
  have hcm0 : tl (commas (s.names.map fun s => [s])) ≤ 3000000000 := by omega
  have hhd := r4Head2 s hop hnn hcm0
  generalize commas (s.names.map fun s => [s]) = cm at *
  unfold R4 at hx
  generalize x.tk = et at *
  refine ADet.intro mixed Tryz.call124 Tryz.func124 rfl ?_
  simp [Tryz.ntmps124]
  refine ⟨_, _, hhd _ _, ?_⟩
  (try simp [strs, T, hexs, exEnc])
  repeat (rw [if_pos (by omega)]; (try simp [strs, T, hexs]))
  refine ⟨_, _, hx _, ?_⟩
  simp [strs, T, hexs]
  repeat (rw [if_pos (by omega)]; (try simp [strs, T, hexs]))
set_option maxRecDepth 100000 in
set_option maxHeartbeats 8000000 in
theorem r4Stmt3 (s : St) (hop : s.op = 3) (x : Ex) (hexs : s.exprs = [x]) (hx : R4 x) (hpl : s.place.path.length ≤ 20000) (hb : tl s.tk ≤ 3000000000) : R4S s := by
  intro S
  have T : ∀ m : Int, (s.op == m) = ((3 : Int) == m) := fun m => by rw [hop]
  have htk0 : s.tk = (s.place.tk ++ [(⟨#[61]⟩ : ByteArray)]) ++ (s.exprs.flatMap Ex.tk ++ restTk s.op (s.body.flatMap St.tk) s.els.length (s.els.flatMap St.tk)) := by
    rw [stTk_eq]; unfold stTk1 headTk; rw [List.flatMap_def (f := Ex.tk)]; simp [hop]
  have htk : s.tk = (s.place.tk ++ [(⟨#[61]⟩ : ByteArray)]) ++ x.tk ++ [(⟨#[59]⟩ : ByteArray)] := by
    rw [htk0, hexs]; unfold restTk; simp [hop]
  have hln := len_tl s.tk
  rw [htk] at hln hb ⊢
  simp only [tl_cons, tl_append, tl_nil, tl_brace] at hb
  (try simp only [List.length_append, List.length_cons, List.length_nil] at hln)
  (try simp only [tl_cons, tl_append, tl_nil, tl_brace] at hln)
  have hhd := r4Head3 s hop hpl
  generalize s.place.tk = pt at *
  unfold R4 at hx
  generalize x.tk = et at *
  refine ADet.intro mixed Tryz.call124 Tryz.func124 rfl ?_
  simp [Tryz.ntmps124]
  refine ⟨_, _, hhd _ _, ?_⟩
  (try simp [strs, T, hexs, exEnc])
  repeat (rw [if_pos (by omega)]; (try simp [strs, T, hexs]))
  refine ⟨_, _, hx _, ?_⟩
  simp [strs, T, hexs]
  repeat (rw [if_pos (by omega)]; (try simp [strs, T, hexs]))
set_option maxRecDepth 100000 in
set_option maxHeartbeats 8000000 in
theorem r4Stmt4 (s : St) (hop : s.op = 4) (x : Ex) (hexs : s.exprs = [x]) (hx : R4 x) (hb : tl s.tk ≤ 3000000000) : R4S s := by
  intro S
  have T : ∀ m : Int, (s.op == m) = ((4 : Int) == m) := fun m => by rw [hop]
  have htk0 : s.tk = (s.exprs.flatMap Ex.tk ++ restTk s.op (s.body.flatMap St.tk) s.els.length (s.els.flatMap St.tk)) := by
    rw [stTk_eq]; unfold stTk1 headTk; rw [List.flatMap_def (f := Ex.tk)]; simp [hop]
  have htk : s.tk = x.tk ++ [(⟨#[59]⟩ : ByteArray)] := by
    rw [htk0, hexs]; unfold restTk; simp [hop]
  have hln := len_tl s.tk
  rw [htk] at hln hb ⊢
  simp only [tl_cons, tl_append, tl_nil, tl_brace] at hb
  (try simp only [List.length_append, List.length_cons, List.length_nil] at hln)
  (try simp only [tl_cons, tl_append, tl_nil, tl_brace] at hln)
  unfold R4 at hx
  generalize x.tk = et at *
  refine ADet.intro mixed Tryz.call124 Tryz.func124 rfl ?_
  simp [Tryz.ntmps124]
  refine ⟨_, _, r4HeadN s (by omega) (by omega) (by omega) (by omega) (by omega) _, ?_⟩
  (try simp [strs, T, hexs, exEnc])
  repeat (rw [if_pos (by omega)]; (try simp [strs, T, hexs]))
  refine ⟨_, _, hx _, ?_⟩
  simp [strs, T, hexs]
  repeat (rw [if_pos (by omega)]; (try simp [strs, T, hexs]))
set_option maxRecDepth 100000 in
set_option maxHeartbeats 8000000 in
theorem r4Stmt5 (s : St) (hop : s.op = 5) (hexs : s.exprs = []) (hb : tl s.tk ≤ 3000000000) : R4S s := by
  intro S
  have T : ∀ m : Int, (s.op == m) = ((5 : Int) == m) := fun m => by rw [hop]
  have htk0 : s.tk = [(⟨#[100, 114, 111, 112]⟩ : ByteArray), s.name, (⟨#[59]⟩ : ByteArray)] ++ (s.exprs.flatMap Ex.tk ++ restTk s.op (s.body.flatMap St.tk) s.els.length (s.els.flatMap St.tk)) := by
    rw [stTk_eq]; unfold stTk1 headTk; rw [List.flatMap_def (f := Ex.tk)]; simp [hop]
  have htk : s.tk = [(⟨#[100, 114, 111, 112]⟩ : ByteArray), s.name, (⟨#[59]⟩ : ByteArray)] := by
    rw [htk0, hexs]; unfold restTk; simp [hop]
  have hln := len_tl s.tk
  rw [htk] at hln hb ⊢
  simp only [tl_cons, tl_append, tl_nil, tl_brace] at hb
  (try simp only [List.length_append, List.length_cons, List.length_nil] at hln)
  (try simp only [tl_cons, tl_append, tl_nil, tl_brace] at hln)
  refine ADet.intro mixed Tryz.call124 Tryz.func124 rfl ?_
  simp [Tryz.ntmps124]
  refine ⟨_, _, r4HeadN s (by omega) (by omega) (by omega) (by omega) (by omega) _, ?_⟩
  simp [strs, T, hexs]
  repeat (rw [if_pos (by omega)]; (try simp [strs, T, hexs]))
set_option maxRecDepth 100000 in
set_option maxHeartbeats 8000000 in
theorem r4Stmt6 (s : St) (hop : s.op = 6) (x : Ex) (hexs : s.exprs = [x]) (hx : R4 x) (hs : ∀ x ∈ s.body, R4S x) (hbn : s.body.length ≤ 20000) (hels : s.els = []) (hb : tl s.tk ≤ 3000000000) : R4S s := by
  intro S
  have T : ∀ m : Int, (s.op == m) = ((6 : Int) == m) := fun m => by rw [hop]
  have htk0 : s.tk = [(⟨#[105, 102]⟩ : ByteArray)] ++ (s.exprs.flatMap Ex.tk ++ restTk s.op (s.body.flatMap St.tk) s.els.length (s.els.flatMap St.tk)) := by
    rw [stTk_eq]; unfold stTk1 headTk; rw [List.flatMap_def (f := Ex.tk)]; simp [hop]
  have htk : s.tk = [(⟨#[105, 102]⟩ : ByteArray)] ++ x.tk ++ braceTk (s.body.flatMap St.tk) := by
    rw [htk0, hexs]; unfold restTk; simp [hop, hels]
  have hln := len_tl s.tk
  rw [htk] at hln hb ⊢
  simp only [tl_cons, tl_append, tl_nil, tl_brace] at hb
  (try simp only [List.length_append, List.length_cons, List.length_nil] at hln)
  (try simp only [tl_cons, tl_append, tl_nil, tl_brace] at hln)
  have hB := fun S => r4BlockC s.body hs hbn (by omega) S
  have hlb := len_tl (braceTk (s.body.flatMap St.tk))
  rw [tl_brace] at hlb
  generalize braceTk (s.body.flatMap St.tk) = bt at *
  unfold R4 at hx
  generalize x.tk = et at *
  refine ADet.intro mixed Tryz.call124 Tryz.func124 rfl ?_
  simp [Tryz.ntmps124]
  refine ⟨_, _, r4Head6 s hop _ _, ?_⟩
  (try simp [strs, T, hexs, exEnc])
  repeat (rw [if_pos (by omega)]; (try simp [strs, T, hexs]))
  refine ⟨_, _, hx _, ?_⟩
  (try simp [strs, T, hexs])
  repeat (rw [if_pos (by omega)]; (try simp [strs, T, hexs]))
  refine ⟨_, _, hB _, ?_⟩
  simp [strs, T, hexs, hels]
  repeat (rw [if_pos (by omega)]; (try simp [strs, T, hexs, hels]))
set_option maxRecDepth 100000 in
set_option maxHeartbeats 8000000 in
theorem r4Stmt60 (s : St) (hop : s.op = 6) (x : Ex) (hexs : s.exprs = [x]) (hx : R4 x) (hs : ∀ x ∈ s.body, R4S x) (hbn : s.body.length ≤ 20000) (he : ∀ x ∈ s.els, R4S x) (hen : s.els.length ≤ 20000) (hel : s.els ≠ []) (hb : tl s.tk ≤ 3000000000) : R4S s := by
  intro S
  have T : ∀ m : Int, (s.op == m) = ((6 : Int) == m) := fun m => by rw [hop]
  have htk0 : s.tk = [(⟨#[105, 102]⟩ : ByteArray)] ++ (s.exprs.flatMap Ex.tk ++ restTk s.op (s.body.flatMap St.tk) s.els.length (s.els.flatMap St.tk)) := by
    rw [stTk_eq]; unfold stTk1 headTk; rw [List.flatMap_def (f := Ex.tk)]; simp [hop]
  have htk : s.tk = [(⟨#[105, 102]⟩ : ByteArray)] ++ x.tk ++ braceTk (s.body.flatMap St.tk) ++ (⟨#[101, 108, 115, 101]⟩ : ByteArray) :: braceTk (s.els.flatMap St.tk) := by
    rw [htk0, hexs]; unfold restTk; simp [hop, hel]
  have hln := len_tl s.tk
  rw [htk] at hln hb ⊢
  simp only [tl_cons, tl_append, tl_nil, tl_brace] at hb
  (try simp only [List.length_append, List.length_cons, List.length_nil] at hln)
  (try simp only [tl_cons, tl_append, tl_nil, tl_brace] at hln)
  have hB := fun S => r4BlockC s.body hs hbn (by omega) S
  have hlb := len_tl (braceTk (s.body.flatMap St.tk))
  rw [tl_brace] at hlb
  generalize braceTk (s.body.flatMap St.tk) = bt at *
  unfold R4 at hx
  generalize x.tk = et at *
  have hEl := fun S => r4BlockC s.els he hen (by omega) S
  have hle2 := len_tl (braceTk (s.els.flatMap St.tk))
  rw [tl_brace] at hle2
  have hp : 0 < s.els.length := List.length_pos_iff.2 hel
  generalize braceTk (s.els.flatMap St.tk) = lt at *
  refine ADet.intro mixed Tryz.call124 Tryz.func124 rfl ?_
  simp [Tryz.ntmps124]
  refine ⟨_, _, r4Head6 s hop _ _, ?_⟩
  (try simp [strs, T, hexs, exEnc])
  repeat (rw [if_pos (by omega)]; (try simp [strs, T, hexs, hp]))
  refine ⟨_, _, hx _, ?_⟩
  (try simp [strs, T, hexs, hp])
  repeat (rw [if_pos (by omega)]; (try simp [strs, T, hexs, hp]))
  refine ⟨_, _, hB _, ?_⟩
  (try simp [strs, T, hexs, hp])
  repeat (rw [if_pos (by omega)]; (try simp [strs, T, hexs, hp]))
  refine ⟨_, _, hEl _, ?_⟩
  simp [strs, T, hexs, hp]
  repeat (rw [if_pos (by omega)]; (try simp [strs, T, hexs, hp]))
set_option maxRecDepth 100000 in
set_option maxHeartbeats 8000000 in
theorem r4Stmt7 (s : St) (hop : s.op = 7) (x : Ex) (hexs : s.exprs = [x]) (hx : R4 x) (hs : ∀ x ∈ s.body, R4S x) (hbn : s.body.length ≤ 20000) (hels : s.els = []) (hb : tl s.tk ≤ 3000000000) : R4S s := by
  intro S
  have T : ∀ m : Int, (s.op == m) = ((7 : Int) == m) := fun m => by rw [hop]
  have htk0 : s.tk = [(⟨#[119, 104, 105, 108, 101]⟩ : ByteArray)] ++ (s.exprs.flatMap Ex.tk ++ restTk s.op (s.body.flatMap St.tk) s.els.length (s.els.flatMap St.tk)) := by
    rw [stTk_eq]; unfold stTk1 headTk; rw [List.flatMap_def (f := Ex.tk)]; simp [hop]
  have htk : s.tk = [(⟨#[119, 104, 105, 108, 101]⟩ : ByteArray)] ++ x.tk ++ braceTk (s.body.flatMap St.tk) := by
    rw [htk0, hexs]; unfold restTk; simp [hop, hels]
  have hln := len_tl s.tk
  rw [htk] at hln hb ⊢
  simp only [tl_cons, tl_append, tl_nil, tl_brace] at hb
  (try simp only [List.length_append, List.length_cons, List.length_nil] at hln)
  (try simp only [tl_cons, tl_append, tl_nil, tl_brace] at hln)
  have hB := fun S => r4BlockC s.body hs hbn (by omega) S
  have hlb := len_tl (braceTk (s.body.flatMap St.tk))
  rw [tl_brace] at hlb
  generalize braceTk (s.body.flatMap St.tk) = bt at *
  unfold R4 at hx
  generalize x.tk = et at *
  refine ADet.intro mixed Tryz.call124 Tryz.func124 rfl ?_
  simp [Tryz.ntmps124]
  refine ⟨_, _, r4Head7 s hop _ _, ?_⟩
  (try simp [strs, T, hexs, exEnc])
  repeat (rw [if_pos (by omega)]; (try simp [strs, T, hexs]))
  refine ⟨_, _, hx _, ?_⟩
  (try simp [strs, T, hexs])
  repeat (rw [if_pos (by omega)]; (try simp [strs, T, hexs]))
  refine ⟨_, _, hB _, ?_⟩
  simp [strs, T, hexs, hels]
  repeat (rw [if_pos (by omega)]; (try simp [strs, T, hexs, hels]))
set_option maxRecDepth 100000 in
set_option maxHeartbeats 8000000 in
theorem r4Stmt8 (s : St) (hop : s.op = 8) (hexs : s.exprs = []) (ha : ∀ a ∈ s.arms, ∀ x ∈ a.body, R4S x) (han : ∀ a ∈ s.arms, a.body.length ≤ 20000) (han2 : s.arms.length ≤ 20000) (hb : tl s.tk ≤ 3000000000) : R4S s := by
  intro S
  have T : ∀ m : Int, (s.op == m) = ((8 : Int) == m) := fun m => by rw [hop]
  have htk0 : s.tk = ((⟨#[109, 97, 116, 99, 104]⟩ : ByteArray) :: s.name :: (⟨#[58]⟩ : ByteArray) :: s.second :: (⟨#[123]⟩ : ByteArray) :: (s.arms.flatMap Ar.tk ++ [(⟨#[125]⟩ : ByteArray)])) ++ (s.exprs.flatMap Ex.tk ++ restTk s.op (s.body.flatMap St.tk) s.els.length (s.els.flatMap St.tk)) := by
    rw [stTk_eq]; unfold stTk1 headTk; rw [List.flatMap_def (f := Ex.tk)]; simp [hop]
  have htk : s.tk = ((⟨#[109, 97, 116, 99, 104]⟩ : ByteArray) :: s.name :: (⟨#[58]⟩ : ByteArray) :: s.second :: (⟨#[123]⟩ : ByteArray) :: (s.arms.flatMap Ar.tk ++ [(⟨#[125]⟩ : ByteArray)])) := by
    rw [htk0, hexs]; unfold restTk; simp [hop]
  have hln := len_tl s.tk
  rw [htk] at hln hb ⊢
  simp only [tl_cons, tl_append, tl_nil, tl_brace] at hb
  (try simp only [List.length_append, List.length_cons, List.length_nil] at hln)
  (try simp only [tl_cons, tl_append, tl_nil, tl_brace] at hln)
  obtain ⟨F, hF⟩ : ∃ F : Nat → List ByteArray, ∀ q, F q = (⟨#[109, 97, 116, 99, 104]⟩ : ByteArray) :: s.name :: (⟨#[58]⟩ : ByteArray) :: s.second :: (⟨#[123]⟩ : ByteArray) :: (s.arms.take q).flatMap Ar.tk := ⟨_, fun _ => rfl⟩
  have h0 : F 0 = [(⟨#[109, 97, 116, 99, 104]⟩ : ByteArray), s.name, (⟨#[58]⟩ : ByteArray), s.second, (⟨#[123]⟩ : ByteArray)] := by rw [hF]; rfl
  have hz : (⟨#[109, 97, 116, 99, 104]⟩ : ByteArray) :: s.name :: (⟨#[58]⟩ : ByteArray) :: s.second :: (⟨#[123]⟩ : ByteArray) :: (s.arms.flatMap Ar.tk ++ [(⟨#[125]⟩ : ByteArray)]) = F s.arms.length ++ [(⟨#[125]⟩ : ByteArray)] := by rw [hF, List.take_length]; rfl
  have hT : ∀ q (h : q < s.arms.length), F (q + 1) = F q ++ s.arms[q].tk := fun q h => by rw [hF, hF, take_flat_snoc Ar.tk s.arms h]; rfl
  have hsz : ∀ q, tl (F q) ≤ 2999999998 := fun q => by
    have := tl_take_flat Ar.tk s.arms q
    rw [hF]; simp only [tl_cons]
    have z : ((⟨#[125]⟩ : ByteArray) : ByteArray).size = 1 := rfl
    omega
  rw [hz]
  have hlenA : s.arms.length ≤ maxLen := sm_max han2
  refine ADet.intro mixed Tryz.call124 Tryz.func124 rfl ?_
  simp [Tryz.ntmps124]
  refine ⟨_, _, r4HeadN s (by omega) (by omega) (by omega) (by omega) (by omega) _, ?_⟩
  (try simp [strs, T, hexs])
  repeat (rw [if_pos (by omega)]; (try simp [strs, T, hexs]))
  refine awp_loop (fun q : Nat => q ≤ s.arms.length) (fun q => ([.any, .ptr 0 0 0, .any, .osl 1 ((F q).map fun s => [pS s]) 0 2, I q] ++ List.replicate 173 .any)) (fun q => [.cells (stU s) 109, .dead, .tok 9 1 (F q).length] :: S) (fun q => s.arms.length - q) 0 (Nat.zero_le _) ?_ ?_ ?_
  · simp [h0]
  · simp [h0, hexs, strs]
  rintro q hq
  by_cases hlt : q < s.arms.length
  · have hT := hT q hlt
    have hsz := hsz (q + 1)
    have hln := len_tl (F (q + 1))
    have hB := fun S => r4BlockC s.arms[q].body (ha _ (List.getElem_mem hlt)) (han _ (List.getElem_mem hlt)) (by rw [hT, tl_append, arTk_eq] at hsz; unfold armTk at hsz; simp only [tl_cons, tl_append, tl_brace] at hsz; omega) S
    rw [hT, arTk_eq] at hsz hln
    rw [arTk_eq] at hT
    unfold armTk at hT hsz hln
    generalize hxq : s.arms[q] = a at *
    generalize braceTk (a.body.flatMap St.tk) = bt at *
    cases hnm : sEq a.name emS with
    | true =>
      simp only [hnm, if_true, List.nil_append, List.length_append, List.length_cons, List.length_nil] at hT hsz hln
      simp [hlt, hxq, Ar.enc, hnm]
      repeat (rw [if_pos (by omega)]; (try simp [hlt, hxq, Ar.enc, hnm]))
      refine ⟨_, _, hB _, ?_⟩
      simp [strs]
      repeat (rw [if_pos (by omega)]; (try simp [strs]))
      exact ⟨q + 1, hlt, by omega, ⟨by rw [hT]; simp, wrap_succ hlt⟩, by rw [hT]; simp; try omega⟩
    | false =>
      simp only [hnm, Bool.false_eq_true, if_false, List.length_append, List.length_cons, List.length_nil] at hT hsz hln
      simp [hlt, hxq, Ar.enc, hnm]
      repeat (rw [if_pos (by omega)]; (try simp [hlt, hxq, Ar.enc, hnm]))
      refine ⟨_, _, hB _, ?_⟩
      simp [strs]
      repeat (rw [if_pos (by omega)]; (try simp [strs]))
      exact ⟨q + 1, hlt, by omega, ⟨by rw [hT]; simp, wrap_succ hlt⟩, by rw [hT]; simp; try omega⟩
  have hq2 : q = s.arms.length := by omega
  subst hq2
  have hln2 := len_tl (F s.arms.length)
  have hsz2 := hsz s.arms.length
  simp [strs, T, hexs]
  repeat (rw [if_pos (by omega)]; (try simp [strs, T, hexs]))
set_option maxRecDepth 100000 in
set_option maxHeartbeats 8000000 in
theorem r4Stmt9 (s : St) (hop : s.op = 9) (hexs : s.exprs = []) (hs : ∀ x ∈ s.body, R4S x) (hbn : s.body.length ≤ 20000) (hels : s.els = []) (hb : tl s.tk ≤ 3000000000) : R4S s := by
  intro S
  have T : ∀ m : Int, (s.op == m) = ((9 : Int) == m) := fun m => by rw [hop]
  have htk0 : s.tk = [(⟨#[115, 99, 111, 112, 101]⟩ : ByteArray)] ++ (s.exprs.flatMap Ex.tk ++ restTk s.op (s.body.flatMap St.tk) s.els.length (s.els.flatMap St.tk)) := by
    rw [stTk_eq]; unfold stTk1 headTk; rw [List.flatMap_def (f := Ex.tk)]; simp [hop]
  have htk : s.tk = [(⟨#[115, 99, 111, 112, 101]⟩ : ByteArray)] ++ braceTk (s.body.flatMap St.tk) := by
    rw [htk0, hexs]; unfold restTk; simp [hop, hels]
  have hln := len_tl s.tk
  rw [htk] at hln hb ⊢
  simp only [tl_cons, tl_append, tl_nil, tl_brace] at hb
  (try simp only [List.length_append, List.length_cons, List.length_nil] at hln)
  (try simp only [tl_cons, tl_append, tl_nil, tl_brace] at hln)
  have hB := fun S => r4BlockC s.body hs hbn (by omega) S
  have hlb := len_tl (braceTk (s.body.flatMap St.tk))
  rw [tl_brace] at hlb
  generalize braceTk (s.body.flatMap St.tk) = bt at *
  refine ADet.intro mixed Tryz.call124 Tryz.func124 rfl ?_
  simp [Tryz.ntmps124]
  refine ⟨_, _, r4HeadN s (by omega) (by omega) (by omega) (by omega) (by omega) _, ?_⟩
  (try simp [strs, T, hexs])
  repeat (rw [if_pos (by omega)]; (try simp [strs, T, hexs]))
  refine ⟨_, _, hB _, ?_⟩
  simp [strs, T, hexs]
  repeat (rw [if_pos (by omega)]; (try simp [strs, T, hexs]))
set_option maxRecDepth 100000 in
set_option maxHeartbeats 8000000 in
theorem r4Stmt11 (s : St) (hop : s.op = 11) (hexs : s.exprs = []) (hs : ∀ x ∈ s.body, R4S x) (hbn : s.body.length ≤ 20000) (hels : s.els = []) (hpl : s.place.path.length ≤ 20000) (hb : tl s.tk ≤ 3000000000) : R4S s := by
  intro S
  have T : ∀ m : Int, (s.op == m) = ((11 : Int) == m) := fun m => by rw [hop]
  have htk0 : s.tk = ((⟨#[108, 111, 99, 107]⟩ : ByteArray) :: (s.place.tk ++ [(⟨#[97, 115]⟩ : ByteArray), s.name])) ++ (s.exprs.flatMap Ex.tk ++ restTk s.op (s.body.flatMap St.tk) s.els.length (s.els.flatMap St.tk)) := by
    rw [stTk_eq]; unfold stTk1 headTk; rw [List.flatMap_def (f := Ex.tk)]; simp [hop]
  have htk : s.tk = ((⟨#[108, 111, 99, 107]⟩ : ByteArray) :: (s.place.tk ++ [(⟨#[97, 115]⟩ : ByteArray), s.name])) ++ braceTk (s.body.flatMap St.tk) := by
    rw [htk0, hexs]; unfold restTk; simp [hop, hels]
  have hln := len_tl s.tk
  rw [htk] at hln hb ⊢
  simp only [tl_cons, tl_append, tl_nil, tl_brace] at hb
  (try simp only [List.length_append, List.length_cons, List.length_nil] at hln)
  (try simp only [tl_cons, tl_append, tl_nil, tl_brace] at hln)
  have hB := fun S => r4BlockC s.body hs hbn (by omega) S
  have hlb := len_tl (braceTk (s.body.flatMap St.tk))
  rw [tl_brace] at hlb
  generalize braceTk (s.body.flatMap St.tk) = bt at *
  have hpc := fun S => r4PlaceC s.place hpl S
  generalize s.place.tk = pt at *
  refine ADet.intro mixed Tryz.call124 Tryz.func124 rfl ?_
  simp [Tryz.ntmps124]
  refine ⟨_, _, r4HeadN s (by omega) (by omega) (by omega) (by omega) (by omega) _, ?_⟩
  (try simp [strs, T, hexs])
  repeat (rw [if_pos (by omega)]; (try simp [strs, T, hexs]))
  refine ⟨_, _, hpc _, ?_⟩
  (try simp [strs, T, hexs])
  repeat (rw [if_pos (by omega)]; (try simp [strs, T, hexs]))
  refine ⟨_, _, hB _, ?_⟩
  simp [strs, T, hexs]
  repeat (rw [if_pos (by omega)]; (try simp [strs, T, hexs]))
set_option maxRecDepth 100000 in
set_option maxHeartbeats 8000000 in
theorem r4Stmt12 (s : St) (hop : s.op = 12) (hexs : s.exprs = []) (hty : ∀ S, ADet Tryz.prog 9 [tyV s.type] S (.p (strs s.type.tk)) S) (hi1 : -9223372036854775808 ≤ s.int) (hi2 : s.int ≤ 9223372036854775807) (hb : tl s.tk ≤ 3000000000) : R4S s := by
  intro S
  have T : ∀ m : Int, (s.op == m) = ((12 : Int) == m) := fun m => by rw [hop]
  have htk0 : s.tk = ((⟨#[99, 104, 97, 110]⟩ : ByteArray) :: (⟨#[60]⟩ : ByteArray) :: (s.type.tk ++ [(⟨#[62]⟩ : ByteArray), (⟨#[40]⟩ : ByteArray), itoaB s.int, (⟨#[41]⟩ : ByteArray), (⟨#[97, 115]⟩ : ByteArray), s.name, (⟨#[44]⟩ : ByteArray), s.second, (⟨#[59]⟩ : ByteArray)])) ++ (s.exprs.flatMap Ex.tk ++ restTk s.op (s.body.flatMap St.tk) s.els.length (s.els.flatMap St.tk)) := by
    rw [stTk_eq]; unfold stTk1 headTk; rw [List.flatMap_def (f := Ex.tk)]; simp [hop]
  have htk : s.tk = ((⟨#[99, 104, 97, 110]⟩ : ByteArray) :: (⟨#[60]⟩ : ByteArray) :: (s.type.tk ++ [(⟨#[62]⟩ : ByteArray), (⟨#[40]⟩ : ByteArray), itoaB s.int, (⟨#[41]⟩ : ByteArray), (⟨#[97, 115]⟩ : ByteArray), s.name, (⟨#[44]⟩ : ByteArray), s.second, (⟨#[59]⟩ : ByteArray)])) := by
    rw [htk0, hexs]; unfold restTk; simp [hop]
  have hln := len_tl s.tk
  rw [htk] at hln hb ⊢
  simp only [tl_cons, tl_append, tl_nil, tl_brace] at hb
  (try simp only [List.length_append, List.length_cons, List.length_nil] at hln)
  (try simp only [tl_cons, tl_append, tl_nil, tl_brace] at hln)
  have hP := fun S => printOK s.int S hi1 hi2
  generalize s.type.tk = tt at *
  refine ADet.intro mixed Tryz.call124 Tryz.func124 rfl ?_
  simp [Tryz.ntmps124]
  refine ⟨_, _, r4HeadN s (by omega) (by omega) (by omega) (by omega) (by omega) _, ?_⟩
  (try simp [strs, T, hexs])
  repeat (rw [if_pos (by omega)]; (try simp [strs, T, hexs]))
  refine ⟨_, _, hty _, ?_⟩
  (try simp [strs, T, hexs])
  repeat (rw [if_pos (by omega)]; (try simp [strs, T, hexs]))
  refine awp_draw [(5, 3), (7, 3)] (by kernel_rfl) (by kernel_rfl) ?_
  simp [strs, T, hexs]
  refine ⟨_, _, hP _, ?_⟩
  simp [strs, T, hexs]
  repeat (rw [if_pos (by omega)]; (try simp [strs, T, hexs]))
set_option maxRecDepth 100000 in
set_option maxHeartbeats 8000000 in
theorem r4Stmt13 (s : St) (hop : s.op = 13) (hexs : s.exprs = []) (hs : ∀ x ∈ s.body, R4S x) (hbn : s.body.length ≤ 20000) (hels : s.els = []) (hb : tl s.tk ≤ 3000000000) : R4S s := by
  intro S
  have T : ∀ m : Int, (s.op == m) = ((13 : Int) == m) := fun m => by rw [hop]
  have htk0 : s.tk = (s.exprs.flatMap Ex.tk ++ restTk s.op (s.body.flatMap St.tk) s.els.length (s.els.flatMap St.tk)) := by
    rw [stTk_eq]; unfold stTk1 headTk; rw [List.flatMap_def (f := Ex.tk)]; simp [hop]
  have htk : s.tk = braceTk (s.body.flatMap St.tk) := by
    rw [htk0, hexs]; unfold restTk; simp [hop, hels]
  have hln := len_tl s.tk
  rw [htk] at hln hb ⊢
  simp only [tl_cons, tl_append, tl_nil, tl_brace] at hb
  (try simp only [List.length_append, List.length_cons, List.length_nil] at hln)
  (try simp only [tl_cons, tl_append, tl_nil, tl_brace] at hln)
  have hB := fun S => r4BlockC s.body hs hbn (by omega) S
  have hlb := len_tl (braceTk (s.body.flatMap St.tk))
  rw [tl_brace] at hlb
  generalize braceTk (s.body.flatMap St.tk) = bt at *
  refine ADet.intro mixed Tryz.call124 Tryz.func124 rfl ?_
  simp [Tryz.ntmps124]
  refine ⟨_, _, r4HeadN s (by omega) (by omega) (by omega) (by omega) (by omega) _, ?_⟩
  (try simp [strs, T, hexs])
  repeat (rw [if_pos (by omega)]; (try simp [strs, T, hexs]))
  refine ⟨_, _, hB _, ?_⟩
  simp [strs, T, hexs]
  repeat (rw [if_pos (by omega)]; (try simp [strs, T, hexs]))
set_option maxRecDepth 100000 in
set_option maxHeartbeats 2000000 in
theorem r4Stmt10 (s : St) (hop : s.op = 10) (hsp : ∀ S, ADet Tryz.prog 150 [stmV s] S (.p (strs s.tk)) S) (hb : tl s.tk ≤ 3000000000) : R4S s := by
  intro S
  have T : ∀ m : Int, (s.op == m) = ((10 : Int) == m) := fun m => by rw [hop]
  have hln := len_tl s.tk
  generalize s.tk = tk at *
  refine ADet.intro mixed Tryz.call124 Tryz.func124 rfl ?_
  simp [Tryz.ntmps124]
  refine ⟨_, _, r4HeadN s (by omega) (by omega) (by omega) (by omega) (by omega) _, ?_⟩
  simp [T]
  refine ⟨_, _, hsp _, ?_⟩
  simp [strs, T]
  repeat (rw [if_pos (by omega)]; (try simp [strs, T]))
end Go.Proofs.YtldglgdejmljnaaGreatDoor
