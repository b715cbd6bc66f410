/- 3 texts of this proof, one behind the other: CShI CShG COwP. The statement is proved in the claim's last text. -/
import Derived.Test.YtlnoacoanfhdcaaGreatDoorMSt
import Derived.Test.YtlnoacoanfhdcaaGreatDoorMSh
import Derived.Test.YtlnoacoanfhdcaaGreatDoorMWi
namespace Go.Proofs.YtlnoacoanfhdcaaGreatDoor
open Go.RowKit
attribute [local simp] List.replicate List.range List.range.loop resA resOne retA AV.cuts AV.cut AObj.cut trim wkR wkT wkL wkN wkNR wkNL wkM wkMR wkML virtL virtO virt_get markL markO markR_get rowA awpI_nil awpI_cons List.forall_mem_cons List.contains_cons List.contains_nil List.find? nextD_eq awpD_nil awpD_cons LCp LCl refL
set_option linter.unusedVariables false
set_option linter.unusedSimpArgs false

set_option maxRecDepth 100000 in
set_option maxHeartbeats 1000000 in
theorem endC {S : ASt} {d i j : Nat} {p : Pg} (h : At S d i j p) (hb : p.bytes.size + 1 ≤ 4294967296) : ADet Tryz.prog 52 [.ptr d i 0] S .un (upd S d i j (endP p)) := by
  refine ADet.intro mixed Tryz.call52 Tryz.func52 rfl ?_
  have ho := (h.upd ⟨true, p.bytes ++ (⟨#[10]⟩ : ByteArray), p.line⟩).o
  simp only [pgO, adrA, if_true] at ho
  have fin : set2 (upd S d i j ⟨true, p.bytes ++ (⟨#[10]⟩ : ByteArray), p.line⟩) d i (.cells [.ptr 0 i 0, .osl 1 (bytesR (p.bytes ++ (⟨#[10]⟩ : ByteArray))) 0 j, B false] 92) = upd S d i j (endP p) := by
    have hu := upd_line h ⟨true, p.bytes ++ (⟨#[10]⟩ : ByteArray), p.line⟩ ⟨true, p.bytes ++ (⟨#[10]⟩ : ByteArray), false⟩
    have ht := (h.upd ⟨true, p.bytes ++ (⟨#[10]⟩ : ByteArray), p.line⟩).t
    show _ = upd S d i j ⟨true, p.bytes ++ (⟨#[10]⟩ : ByteArray), false⟩
    rw [← hu, set2_same (o := tkO ⟨true, p.bytes ++ (⟨#[10]⟩ : ByteArray), false⟩)]
    · rfl
    · rw [get2_set2_ne _ _ _ h.ne]; exact ht
  simp [Tryz.ntmps52]
  refine ⟨_, _, writeByte (h.push []) 10 hb, ?_⟩
  simp [upd_suc, ho, fin]
theorem endAt {S : ASt} {d i j : Nat} {p0 : Pg} (h : At S d i j p0) (p : Pg) (L : List AObj) (hb : p.bytes.size + 1 ≤ 4294967296) : ADet Tryz.prog 52 [.ptr (d + 1) i 0] (L :: upd S d i j p) .un (L :: upd S d i j (endP p)) := by
  have := endC ((h.upd p).push L) hb
  rw [upd_suc, upd_upd h.ne] at this
  exact this

/-- an item, written, with its line's end -/
def ItW (x : It) : Prop := ∀ (S : ASt) (d i j : Nat) (p : Pg), At S d i j p → p.bytes.size + (tl x.tk + 1) ≤ 4294967296 → ADet Tryz.prog 22 [.ptr d i 0, itV x] S .un (upd S d i j (endP (putT x.tk p)))
theorem ItW.intro {x : It} (hw : ∀ (S : ASt) (d i j : Nat) (p : Pg), At S d i j p → p.bytes.size + (tl x.tk + 1) ≤ 4294967296 → ADet Tryz.prog 22 [.ptr d i 0, itV x] (upd S d i j (putT [] p)) .un (upd S d i j (endP (putT x.tk p)))) : ItW x := fun S d i j p h hb => by
  have := hw S d i j p h hb
  rw [putT_nil, h.same] at this
  exact this
theorem fld_whole {k d : Int} {f : Fi} (h : fieldB k d f = true) : (k = 2 ∧ f.type.kind = 0) ∨ f.type.whole (d - 1) = true := by
  unfold fieldB at h
  simp only [Bool.and_eq_true, Bool.or_eq_true, beq_iff_eq, zeroTyB] at h
  rcases h.2 with h | h
  · exact .inl ⟨h.1, h.2.1⟩
  · exact .inr h
theorem allUp_mem {α : Type} {p : α → Bool} {l : List α} {m : Int} (h : allUp p l m = true) : ∀ x ∈ l, p x = true := by
  unfold allUp at h
  simp only [Bool.and_eq_true, decide_eq_true_eq] at h
  rw [List.take_of_length_le (by omega)] at h
  exact List.all_eq_true.1 h.2

set_option maxRecDepth 100000 in
set_option maxHeartbeats 4000000 in
theorem item1W (x : It) (d0 : Int) (hop : x.kind = 1) (hf : ∀ f ∈ x.fields, fieldB 1 d0 f = true) : ItW x := by
  refine ItW.intro fun S d i j p h hb => ?_
  have T : ∀ m : Int, (x.kind == m) = ((1 : Int) == m) := fun m => by rw [hop]
  have htk : x.tk = (⟨#[115, 116, 114, 117, 99, 116]⟩ : ByteArray) :: x.name :: (⟨#[123]⟩ : ByteArray) :: (commas (x.fields.map fieldTk) ++ [(⟨#[125]⟩ : ByteArray)]) := by unfold It.tk; rw [if_pos hop]
  have hfs : ∀ f ∈ x.fields, WrC 49 [fiV f] (fieldTk f) := fun f hm => fieldW f (d0 - 1) ((fld_whole (hf f hm)).resolve_left fun e => by have := e.1; omega)
  rw [htk] at hb ⊢
  simp only [tl_cons, tl_append, tl_nil] at hb
  refine ADet.intro mixed Tryz.call22 Tryz.func22 rfl ?_
  simp [Tryz.ntmps22, T]
  refine awp_draw [] (by kernel_rfl) (by kernel_rfl) ?_
  simp [T]
  refine ⟨_, _, (putV [(⟨#[115, 116, 114, 117, 99, 116]⟩ : ByteArray), x.name, (⟨#[123]⟩ : ByteArray)] (by rfl)).at h _ _ (by simp [tl_append, tl_cons, tl_nil]; omega), ?_⟩
  simp [T]
  have hp1 := putT_tl ([] ++ [(⟨#[115, 116, 114, 117, 99, 116]⟩ : ByteArray), x.name, (⟨#[123]⟩ : ByteArray)]) p
  simp only [List.nil_append, tl_cons, tl_nil, tl_append] at hp1
  refine ⟨_, _, fieldsW x.fields hfs h _ _ (by simp at hp1 ⊢; omega), ?_⟩
  simp [T]
  rw [← putT_append]
  refine ⟨_, _, (putV [(⟨#[125]⟩ : ByteArray)] (by rfl)).at h _ _ (by simp [tl_append, tl_cons, tl_nil]; omega), ?_⟩
  simp [T]
  have hp2 := putT_tl ((⟨#[115, 116, 114, 117, 99, 116]⟩ : ByteArray) :: x.name :: (⟨#[123]⟩ : ByteArray) :: (commas (x.fields.map fieldTk) ++ [(⟨#[125]⟩ : ByteArray)])) p
  simp only [tl_cons, tl_append, tl_nil] at hp2
  refine ⟨_, _, endAt h _ _ (by simp at hp2 ⊢; omega), ?_⟩
  simp

set_option maxRecDepth 100000 in
set_option maxHeartbeats 4000000 in
theorem item2W (x : It) (d0 : Int) (hop : x.kind = 2) (hf : ∀ f ∈ x.fields, fieldB 2 d0 f = true) : ItW x := by
  refine ItW.intro fun S d i j p h hb => ?_
  have T : ∀ m : Int, (x.kind == m) = ((2 : Int) == m) := fun m => by rw [hop]
  have htk : x.tk = (⟨#[101, 110, 117, 109]⟩ : ByteArray) :: x.name :: (⟨#[123]⟩ : ByteArray) :: (commas (x.fields.map varTk) ++ [(⟨#[125]⟩ : ByteArray)]) := by unfold It.tk; rw [if_neg (by omega), if_pos hop]
  have hfs : ∀ f ∈ x.fields, WrC 50 [fiV f] (varTk f) := fun f hm => variantW f (d0 - 1) ((fld_whole (hf f hm)).imp (·.2) id)
  rw [htk] at hb ⊢
  simp only [tl_cons, tl_append, tl_nil] at hb
  refine ADet.intro mixed Tryz.call22 Tryz.func22 rfl ?_
  simp [Tryz.ntmps22, T]
  refine awp_draw [] (by kernel_rfl) (by kernel_rfl) ?_
  simp [T]
  refine ⟨_, _, (putV [(⟨#[101, 110, 117, 109]⟩ : ByteArray), x.name, (⟨#[123]⟩ : ByteArray)] (by rfl)).at h _ _ (by simp [tl_append, tl_cons, tl_nil]; omega), ?_⟩
  simp [T]
  have hp1 := putT_tl ([] ++ [(⟨#[101, 110, 117, 109]⟩ : ByteArray), x.name, (⟨#[123]⟩ : ByteArray)]) p
  simp only [List.nil_append, tl_cons, tl_nil, tl_append] at hp1
  refine ⟨_, _, variantsW x.fields hfs h _ _ (by simp at hp1 ⊢; omega), ?_⟩
  simp [T]
  rw [← putT_append]
  refine ⟨_, _, (putV [(⟨#[125]⟩ : ByteArray)] (by rfl)).at h _ _ (by simp [tl_append, tl_cons, tl_nil]; omega), ?_⟩
  simp [T]
  have hp2 := putT_tl ((⟨#[101, 110, 117, 109]⟩ : ByteArray) :: x.name :: (⟨#[123]⟩ : ByteArray) :: (commas (x.fields.map varTk) ++ [(⟨#[125]⟩ : ByteArray)])) p
  simp only [tl_cons, tl_append, tl_nil] at hp2
  refine ⟨_, _, endAt h _ _ (by simp at hp2 ⊢; omega), ?_⟩
  simp

set_option maxRecDepth 100000 in
set_option maxHeartbeats 4000000 in
theorem item3W (x : It) (d0 : Int) (hop : x.kind = 3) (hf : ∀ f ∈ x.fields, fieldB 3 d0 f = true) (hres : x.result.whole (d0 - 1) = true) (hs : ∀ s ∈ x.body, StW s) (hx : ExW x.ret) : ItW x := by
  refine ItW.intro fun S d i j p h hb => ?_
  have T : ∀ m : Int, (x.kind == m) = ((3 : Int) == m) := fun m => by rw [hop]
  have htk : x.tk = (⟨#[102, 110]⟩ : ByteArray) :: x.name :: (⟨#[40]⟩ : ByteArray) :: (commas (x.fields.map fieldTk) ++ (⟨#[41]⟩ : ByteArray) :: (⟨#[45, 62]⟩ : ByteArray) :: (x.result.tk ++ (⟨#[123]⟩ : ByteArray) :: (x.body.flatMap St.tk ++ (x.ret.tk ++ [(⟨#[125]⟩ : ByteArray)])))) := by unfold It.tk; rw [if_neg (by omega), if_neg (by omega)]
  have hfs : ∀ f ∈ x.fields, WrC 49 [fiV f] (fieldTk f) := fun f hm => fieldW f (d0 - 1) ((fld_whole (hf f hm)).resolve_left fun e => by have := e.1; omega)
  have hk := kindC x.result _ hres
  have h0 := hx 0
  rw [parTk_0] at h0
  have hst := stmtsW x.body hs
  rw [htk] at hb ⊢
  simp only [tl_cons, tl_append, tl_nil] at hb
  refine ADet.intro mixed Tryz.call22 Tryz.func22 rfl ?_
  simp [Tryz.ntmps22, T]
  refine awp_draw [] (by kernel_rfl) (by kernel_rfl) ?_
  simp [T]
  refine ⟨_, _, (putV [(⟨#[102, 110]⟩ : ByteArray), x.name, (⟨#[40]⟩ : ByteArray)] (by rfl)).at h _ _ (by simp [tl_append, tl_cons, tl_nil]; omega), ?_⟩
  simp [T]
  have hp1 := putT_tl ([] ++ [(⟨#[102, 110]⟩ : ByteArray), x.name, (⟨#[40]⟩ : ByteArray)]) p
  simp only [List.nil_append, tl_cons, tl_nil, tl_append] at hp1
  refine ⟨_, _, fieldsW x.fields hfs h _ _ (by simp at hp1 ⊢; omega), ?_⟩
  simp [T]
  rw [← putT_append]
  refine ⟨_, _, (putV [(⟨#[41]⟩ : ByteArray), (⟨#[45, 62]⟩ : ByteArray)] (by rfl)).at h _ _ (by simp [tl_append, tl_cons, tl_nil]; omega), ?_⟩
  simp [T]
  refine ⟨_, _, hk.at h _ _ (by simp [tl_append, tl_cons, tl_nil]; omega), ?_⟩
  simp [T]
  refine ⟨_, _, (putV [(⟨#[123]⟩ : ByteArray)] (by rfl)).at h _ _ (by simp [tl_append, tl_cons, tl_nil]; omega), ?_⟩
  simp [T]
  refine ⟨_, _, hst.at h _ _ (by simp [tl_append, tl_cons, tl_nil]; omega), ?_⟩
  simp [T]
  refine ⟨_, _, h0.at h _ _ (by simp [tl_append, tl_cons, tl_nil]; omega), ?_⟩
  simp [T]
  refine ⟨_, _, (putV [(⟨#[125]⟩ : ByteArray)] (by rfl)).at h _ _ (by simp [tl_append, tl_cons, tl_nil]; omega), ?_⟩
  simp [T]
  have hp2 := putT_tl ((⟨#[102, 110]⟩ : ByteArray) :: x.name :: (⟨#[40]⟩ : ByteArray) :: (commas (x.fields.map fieldTk) ++ (⟨#[41]⟩ : ByteArray) :: (⟨#[45, 62]⟩ : ByteArray) :: (x.result.tk ++ (⟨#[123]⟩ : ByteArray) :: (x.body.flatMap St.tk ++ (x.ret.tk ++ [(⟨#[125]⟩ : ByteArray)]))))) p
  simp only [tl_cons, tl_append, tl_nil] at hp2
  refine ⟨_, _, endAt h _ _ (by simp at hp2 ⊢; omega), ?_⟩
  simp

theorem itemW (x : It) (d0 : Int) (hw : x.whole d0 = true) (hr : ItRg x) : ItW x := by
  unfold It.whole at hw
  split at hw
  · rename_i hk
    simp only [Bool.and_eq_true] at hw
    have hf := allUp_mem hw.2
    rcases hk with hk | hk
    · rw [hk] at hf; exact item1W x d0 hk hf
    · rw [hk] at hf; exact item2W x d0 hk hf
  · split at hw
    · rename_i hk
      simp only [Bool.and_eq_true] at hw
      obtain ⟨_, hf, hres, _, hx, hb⟩ := hw
      exact item3W x d0 hk (allUp_mem hf) hres (fun s hs => stmtW s _ (List.all_eq_true.1 hb s hs) (hr.2 s hs)) (exprW x.ret _ hx hr.1)
    · cases hw

/-! ### Programs -/
def pgItem (q : Pg) (x : It) : Pg := endP (putT x.tk q)
def pgs (l : List It) : Pg := l.foldl pgItem pg0
theorem pgs_snoc (l : List It) {q : Nat} (h : q < l.length) : pgs (l.take (q + 1)) = pgItem (pgs (l.take q)) l[q] := by
  unfold pgs
  rw [take_snoc _ h, List.foldl_append]; rfl
theorem pgItem_size (q : Pg) (x : It) : (pgItem q x).bytes.size ≤ q.bytes.size + (tl x.tk + 1) := by
  have := putT_tl x.tk q
  show ((putT x.tk q).bytes ++ (⟨#[10]⟩ : ByteArray)).size ≤ _
  rw [ByteArray.size_append]
  have h1 : (⟨#[10]⟩ : ByteArray).size = 1 := rfl
  omega
theorem pgs_size (l : List It) : (pgs l).bytes.size ≤ tsum (fun x => tl x.tk + 1) l := by
  unfold pgs
  have key : ∀ (l : List It) (q : Pg), (l.foldl pgItem q).bytes.size ≤ q.bytes.size + tsum (fun x => tl x.tk + 1) l := fun l => by
    induction l with
    | nil => intro q; exact Nat.le_refl _
    | cons x l ih =>
      intro q
      have h1 := ih (pgItem q x)
      have h2 := pgItem_size q x
      simp only [List.foldl_cons, tsum]; omega
  have := key l pg0
  have h0 : pg0.bytes.size = 0 := rfl
  omega
theorem tsum_take {α : Type} (t : α → Nat) (l : List α) (q : Nat) : tsum t (l.take q) ≤ tsum t l := by
  induction l generalizing q with
  | nil => simp [tsum]
  | cons x l ih =>
    cases q with
    | zero => exact Nat.zero_le _
    | succ q => simp only [List.take_succ_cons, tsum]; have := ih q; omega
theorem putT_true (l : List ByteArray) (q : Pg) (h : q.line = true) : (putT l q).bytes = l.foldl (fun b t => b ++ (⟨#[32]⟩ : ByteArray) ++ t) q.bytes := by
  induction l generalizing q with
  | nil => rfl
  | cons s l ih =>
    rw [putT_cons, ih _ rfl]
    simp only [put1, h, if_true, List.foldl_cons]
theorem foldl_base (l : List ByteArray) (a b : ByteArray) : l.foldl (fun b t => b ++ (⟨#[32]⟩ : ByteArray) ++ t) (a ++ b) = a ++ l.foldl (fun b t => b ++ (⟨#[32]⟩ : ByteArray) ++ t) b := by
  induction l generalizing b with
  | nil => rfl
  | cons s l ih =>
    simp only [List.foldl_cons]
    rw [show a ++ b ++ (⟨#[32]⟩ : ByteArray) ++ s = a ++ (b ++ (⟨#[32]⟩ : ByteArray) ++ s) by simp [ByteArray.append_assoc], ih]
theorem putT_false (l : List ByteArray) (q : Pg) (h : q.line = false) : (putT l q).bytes = q.bytes ++ lineB l := by
  cases l with
  | nil => show q.bytes = q.bytes ++ emS; rw [show emS = ByteArray.empty from rfl, ByteArray.append_empty]
  | cons s l =>
    rw [putT_cons, putT_true l _ rfl]
    have e : (put1 q s).bytes = q.bytes ++ s := by simp [put1, h]
    rw [e, foldl_base]; rfl
theorem pgs_bytes (l : List It) : (pgs l).bytes = progB l := by
  have key : ∀ (l : List It) (q : Pg), q.line = false → (l.foldl pgItem q).bytes = l.foldl (fun b x => b ++ itemB x) q.bytes := fun l => by
    induction l with
    | nil => intro q _; rfl
    | cons x l ih =>
      intro q hq
      simp only [List.foldl_cons]
      rw [ih _ rfl]
      have e : (pgItem q x).bytes = q.bytes ++ itemB x := by
        show (putT x.tk q).bytes ++ (⟨#[10]⟩ : ByteArray) = _
        rw [putT_false _ _ hq, itemB, ByteArray.append_assoc]
      rw [e]
  exact key l pg0 rfl

theorem At.upd1 {S : ASt} {i j : Nat} {p : Pg} (h : At S 0 i j p) (q : Pg) (L : List AObj) : At (L :: Go.Proofs.YtlnoacoanfhdcaaGreatDoor.upd S 0 i j q) 1 i j q := (h.upd q).push L
set_option maxRecDepth 100000 in
set_option maxHeartbeats 4000000 in
theorem showProgram1 (l : List It) (hl : ∀ x ∈ l, ItW x) (hb : tsum (fun x => tl x.tk + 1) l ≤ 4294967296) (hlen : l.length ≤ maxLen) (L L0 : List AObj) (S : ASt) (i j : Nat) (hL : L0[0]? = some (.cells [.p (prog l)] 24)) (h : At (L :: L0 :: S) 0 i j pg0) :
    ADet Tryz.prog 21 [.ptr 0 i 0, .ptr 1 0 0] (L :: L0 :: S) .un (upd (L :: L0 :: S) 0 i j (pgs l)) := by
  have h00 := h.same
  refine ADet.intro mixed Tryz.call21 Tryz.func21 rfl ?_
  simp [Tryz.ntmps21, hL, prog]
  refine awp_loop (fun q : Nat => q ≤ l.length) (fun q => [.ptr 1 i 0, .ptr 2 0 0, .any, .any, .any, .any, .p (.sl 16 (l.map It.enc)), I l.length, I q, .any, .any, .any, .any, .any, .any, .any]) (fun q => [] :: upd (L :: L0 :: S) 0 i j (pgs (l.take q))) (fun q => l.length - q) 0 (Nat.zero_le _) ?_ ?_ ?_
  · simp
  · simp
    exact h00.symm
  rintro q hq
  by_cases hlt : q < l.length
  · have h1 := tsum_take (fun x : It => tl x.tk + 1) l (q + 1)
    have h2 := pgs_size (l.take q)
    have hT := pgs_snoc l hlt
    have hs := hl _ (List.getElem_mem hlt)
    rw [take_snoc _ hlt] at h1
    have h3 : tsum (fun x : It => tl x.tk + 1) (l.take q ++ [l[q]]) = tsum (fun x : It => tl x.tk + 1) (l.take q) + (tl l[q].tk + 1) := by
      have key : ∀ (l : List It) (x : It), tsum (fun x : It => tl x.tk + 1) (l ++ [x]) = tsum (fun x : It => tl x.tk + 1) l + (tl x.tk + 1) := fun l x => by
        induction l with
        | nil => simp [tsum]
        | cons y l ih => simp only [List.cons_append, tsum, ih]; omega
      exact key _ _
    rw [h3] at h1
    generalize hx : l[q] = x at *
    have hst := hs (([.cells (itU x) 42] : List AObj) :: upd (L :: L0 :: S) 0 i j (pgs (l.take q))) 1 i j (pgs (l.take q)) ((h.upd _).push _) (by omega)
    rw [upd_suc, upd_upd h.ne] at hst
    simp [hlt, hx, It.enc, strs]
    refine ⟨_, _, hst, ?_⟩
    simp [hlt]
    exact ⟨q + 1, hlt, by omega, wrap_succ hlt, by rw [hT]; rfl⟩
  · have : l.take q = l := List.take_of_length_le (by omega)
    simp [hlt, this]
theorem progB_size (l : List It) : (progB l).size ≤ tsum (fun x => tl x.tk + 1) l := by
  rw [← pgs_bytes]; exact pgs_size l
theorem progB_snoc (l : List It) {q : Nat} (h : q < l.length) : progB (l.take (q + 1)) = progB (l.take q) ++ itemB l[q] := by
  unfold progB
  rw [take_snoc _ h, List.foldl_append]; rfl
end Go.Proofs.YtlnoacoanfhdcaaGreatDoor

namespace Go.Proofs.YtlnoacoanfhdcaaGreatDoor
open Go.RowKit
attribute [local simp] List.replicate List.range List.range.loop resA resOne retA
set_option linter.unusedVariables false
set_option linter.unusedSimpArgs false

set_option maxRecDepth 100000 in
set_option maxHeartbeats 1000000 in
theorem showProgramC (p : List It) (hsm : PrSm p) (hr : ∀ x ∈ p, ItRg x) (hb : tsum (fun x => tl x.tk + 1) p ≤ 4294967296) (S : ASt) : ADet Tryz.prog 6 [.agg [.p (prog p)]] S (Sg (if prWhole p then progB p else emS)) S := by
  refine ADet.intro mixed Tryz.call6 Tryz.func6 rfl ?_
  simp [Tryz.ntmps6]
  refine ⟨_, _, wholeProgC p hsm _, ?_⟩
  simp
  cases hw : prWhole p with
  | false =>
    refine ⟨_, _, writtenN _ _, ?_⟩
    simp
  | true =>
    have hit : ∀ x ∈ p, ItW x := fun x hx => itemW x 39 (allUp_mem hw x hx) (hr x hx)
    refine ⟨_, _, writtenC 21 [.ptr 0 0 0] _ (pgs p) (fun L i j h => ?_), ?_⟩
    · exact showProgram1 p hit hb (sm_max hsm.1) L _ S i j rfl h
    · simp [pgs_bytes]
end Go.Proofs.YtlnoacoanfhdcaaGreatDoor

namespace Go.Proofs.YtlnoacoanfhdcaaGreatDoor
open Go.RowKit
set_option linter.unusedVariables false
set_option linter.unusedSimpArgs false

theorem app_assoc (a b c : ByteArray) : a ++ b ++ c = a ++ (b ++ c) := by
  apply ByteArray.ext
  simp
theorem app_em (b : ByteArray) : b ++ emS = b := by
  apply ByteArray.ext
  simp
theorem lineB_cons2 (s t : ByteArray) (l : List ByteArray) : lineB (s :: t :: l) = s ++ (⟨#[32]⟩ : ByteArray) ++ lineB (t :: l) := by
  show l.foldl (fun b t => b ++ (⟨#[32]⟩ : ByteArray) ++ t) (s ++ (⟨#[32]⟩ : ByteArray) ++ t) = _
  rw [foldl_base]
  rfl
theorem lineB_append (a b : List ByteArray) (ha : a ≠ []) (hb : b ≠ []) : lineB (a ++ b) = lineB a ++ (⟨#[32]⟩ : ByteArray) ++ lineB b := by
  induction a with
  | nil => exact absurd rfl ha
  | cons s a ih =>
    cases a with
    | nil =>
      cases b with
      | nil => exact absurd rfl hb
      | cons t b => exact lineB_cons2 s t b
    | cons t a =>
      have := ih (by simp)
      rw [List.cons_append, List.cons_append, lineB_cons2, lineB_cons2]
      rw [List.cons_append] at this
      rw [this]
      simp only [app_assoc]
theorem lineB_ge : ∀ (l : List ByteArray) (s : ByteArray), s ∈ l → s.size ≤ (lineB l).size
  | [], s, h => by cases h
  | [t], s, h => by
    rcases List.mem_cons.1 h with rfl | h
    · exact Nat.le_refl _
    · cases h
  | t :: u :: l, s, h => by
    rw [lineB_cons2, ByteArray.size_append, ByteArray.size_append]
    rcases List.mem_cons.1 h with rfl | h
    · omega
    · have := lineB_ge (u :: l) s h
      omega
theorem em_size (b : ByteArray) : b = emS ↔ b.size = 0 := by
  constructor
  · rintro rfl; rfl
  · intro h
    obtain ⟨⟨l⟩⟩ := b
    have : l.length = 0 := h
    rw [List.length_eq_zero_iff] at this
    subst this; rfl
theorem sEq_em_size {b : ByteArray} (h : 0 < b.size) : sEq b emS = false := sEq_ne fun e => by
  rw [em_size] at e; omega
/-- a text of tokens of which one is not empty -/
theorem textOf_pos {l : List ByteArray} {s : ByteArray} (h : s ∈ l) (hs : 0 < s.size) : 0 < (textOf l).size := by
  rw [textOf_line]
  have := lineB_ge l s h
  omega

/-! ### Bounds -/
theorem exWhole_mono : ∀ (e : Ex) (d d' : Int), d ≤ d' → e.whole d = true → e.whole d' = true := by
  refine Ex.ind fun e ih d d' hd h => ?_
  rw [exWhole_eq] at h ⊢
  rw [allUp_and] at h ⊢
  simp only [Bool.and_eq_true, decide_eq_true_eq, List.all_eq_true] at h ⊢
  obtain ⟨h0, h1, h2, h3⟩ := h
  exact ⟨by omega, h1, h2, fun x hx => ⟨(h3 x hx).1, ih x hx (d - 1) (d' - 1) (by omega) (h3 x hx).2⟩⟩

/-! ### What is whole has a text -/
theorem named_pos {f : Int → Bool} {s : ByteArray} (h : namedB f s = true) : 0 < s.size := by
  rcases Nat.eq_zero_or_pos s.size with h0 | h0
  · rw [namedB, dif_neg (by omega)] at h; cases h
  · exact h0
theorem ty_text {t : Ty} {d : Int} (h : t.whole d = true) : 0 < (textOf t.tk).size := by
  rcases ty_cases h with ⟨hk, ha⟩ | ⟨hk, ha⟩ | ⟨h5, h14, h10, x, ha, hx⟩
  · have e : t.tk = [kindW t.kind] := by
      rw [tyTk_eq, if_neg (by omega), if_neg (by omega), if_neg (by omega), if_pos (by rw [ha]; rfl)]
    rw [e]
    refine textOf_pos (s := kindW t.kind) (by simp) ?_
    rcases hk with h | h | h | h <;> rw [h] <;> decide
  · have e : t.tk = [t.name] := by rw [tyTk_eq, if_pos hk]
    rw [e]
    refine textOf_pos (s := t.name) (by simp) ?_
    rw [whole_eq, hk, show plainKind 4 = false from rfl] at h
    simp only [Bool.and_eq_true, Bool.false_eq_true, if_false, if_true] at h
    exact named_pos (f := upperB) h.2.2.2.1
  · rw [tyTk_eq, if_neg (by omega)]
    split
    · exact textOf_pos (s := (⟨#[38]⟩ : ByteArray)) (by simp) (by decide)
    · split
      · exact textOf_pos (s := (⟨#[38]⟩ : ByteArray)) (by simp) (by decide)
      · rw [if_neg (by rw [ha]; simp)]
        exact textOf_pos (s := (⟨#[60]⟩ : ByteArray)) (by simp) (by decide)
theorem itoaB_pos (n : Int) : 0 < (itoaB n).size := by
  show 0 < (Lib.itoa n).toArray.size
  rw [List.size_toArray]
  have key : ∀ u, 0 < (Lib.decDigits u).length := fun u => by
    rw [Lib.decDigits]
    split <;> simp
  unfold Lib.itoa
  split
  · simp
  · exact key _
set_option maxHeartbeats 1000000 in
theorem ex_text {e : Ex} {d : Int} (h : e.whole d = true) : 0 < (textOf e.tk).size := by
  rw [exWhole_eq] at h
  simp only [Bool.and_eq_true, exHead] at h
  obtain ⟨h0, ⟨ho, hlab, hl, hpl⟩, hall⟩ := h
  simp only [decide_eq_true_eq] at h0 hl
  simp only [shO, Bool.and_eq_true, decide_eq_true_eq] at ho
  rw [exTk_eq]
  have hlen : (e.args.map fun x => (x.op, x.tk)).length = e.args.length := by simp
  generalize (e.args.map fun x => (x.op, x.tk)) = l at *
  by_cases h7 : signI e.op < 7
  · have hop : 7 ≤ e.op ∧ e.op ≤ 17 := by
      unfold signI at h7
      repeat' split at h7
      all_goals omega
    have hsz : 0 < (signB e.op).size := by
      unfold signB
      repeat' split
      all_goals first | decide | omega
    have h1 : 1 ≤ shL e.op := by
      unfold shL
      rw [if_neg (by omega)]
      split <;> omega
    unfold exTk1
    rw [if_pos h7]
    match l, hlen with
    | [], hlen => simp at hlen; omega
    | [(o, a)], _ => exact textOf_pos (l := signB e.op :: parTk o (signI e.op) a) (s := signB e.op) List.mem_cons_self hsz
    | (o, a) :: (o', a') :: r, _ => exact textOf_pos (l := parTk o (if signI e.op = 3 then 4 else signI e.op) a ++ signB e.op :: parTk o' (signI e.op + 1) a') (s := signB e.op) (List.mem_append_right _ List.mem_cons_self) hsz
  · unfold exTk1
    rw [if_neg h7]
    by_cases h1 : e.op = 1
    · rw [if_pos h1]
      exact textOf_pos (s := itoaB e.int) (by simp) (itoaB_pos _)
    rw [if_neg h1]
    by_cases h2 : e.op = 2
    · rw [if_pos h2]
      by_cases hi : e.int = 0
      · rw [if_pos hi]; exact textOf_pos (s := (⟨#[102, 97, 108, 115, 101]⟩ : ByteArray)) (by simp) (by decide)
      · rw [if_neg hi]; exact textOf_pos (s := (⟨#[116, 114, 117, 101]⟩ : ByteArray)) (by simp) (by decide)
    rw [if_neg h2]
    by_cases h3 : e.op = 3
    · rw [if_pos h3]
      exact textOf_pos (s := (⟨#[40]⟩ : ByteArray)) (by simp) (by decide)
    rw [if_neg h3]
    by_cases h4 : e.op = 4
    · rw [if_pos h4]
      rw [h4] at hpl
      simp only [placedB, show shP 4 = true from rfl, if_true, Pl.whole, Bool.and_eq_true] at hpl
      exact textOf_pos (l := e.place.name :: pathTk e.place.path) (s := e.place.name) List.mem_cons_self (named_pos (f := lowerB) hpl.1)
    rw [if_neg h4]
    by_cases h5 : e.op = 5
    · rw [if_pos h5]
      exact textOf_pos (s := (⟨#[38]⟩ : ByteArray)) List.mem_cons_self (by decide)
    rw [if_neg h5]
    by_cases h6 : e.op = 6
    · rw [if_pos h6]
      exact textOf_pos (s := (⟨#[38]⟩ : ByteArray)) List.mem_cons_self (by decide)
    rw [if_neg h6]
    by_cases h18 : e.op = 18
    · rw [if_pos h18]
      exact textOf_pos (s := (⟨#[40]⟩ : ByteArray)) (List.mem_cons_of_mem _ List.mem_cons_self) (by decide)
    rw [if_neg h18]
    by_cases h19 : e.op = 19
    · rw [if_pos h19]
      exact textOf_pos (s := (⟨#[123]⟩ : ByteArray)) (List.mem_cons_of_mem _ List.mem_cons_self) (by decide)
    rw [if_neg h19]
    by_cases h20 : e.op = 20
    · rw [if_pos h20]
      exact textOf_pos (s := (⟨#[46]⟩ : ByteArray)) (List.mem_cons_of_mem _ List.mem_cons_self) (by decide)
    rw [if_neg h20]
    exact textOf_pos (s := (⟨#[40]⟩ : ByteArray)) (List.mem_cons_of_mem _ List.mem_cons_self) (by decide)
end Go.Proofs.YtlnoacoanfhdcaaGreatDoor
