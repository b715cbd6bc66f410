/- 4 texts of this proof, one behind the other: CTl CShW CShF CR4J. The statement is proved in the claim's last text. -/
import Derived.Test.YtlnoacoanfhdcaaGreatDoorMPg
import Derived.Lib.ItoaLen
import Derived.Test.YtlnoacoanfhdcaaGreatDoorMWh
namespace Go.Proofs.YtlnoacoanfhdcaaGreatDoor
open Go.RowKit
set_option linter.unusedVariables false
set_option linter.unusedSimpArgs false

def tsum {α : Type} (t : α → Nat) : List α → Nat
  | [] => 0
  | x :: l => t x + tsum t l
theorem fold_ts {α : Type} {g : α → Int → Int} {t : α → Nat} : ∀ (l : List α), (∀ x ∈ l, ∀ m, 0 ≤ g x m → (t x : Int) ≤ 3 * (m - g x m)) → ∀ n, 0 ≤ roomFold g l n → (tsum t l : Int) ≤ 3 * (n - roomFold g l n)
  | [], _, n, h => by simp [tsum, roomFold]
  | x :: l, h, n, hn => by
    unfold roomFold at hn ⊢
    split at hn
    · omega
    · rename_i h0
      rw [if_neg h0]
      have h1 := fold_pos hn
      have h2 := h x (by simp) n h1
      have h3 := fold_ts l (fun y hy => h y (by simp [hy])) _ hn
      simp only [tsum]
      omega
theorem tl_commas : ∀ (ts : List (List ByteArray)), tl (commas ts) ≤ tsum (fun a => tl a + 2) ts
  | [] => Nat.zero_le _
  | a :: l => by
    have hf : ∀ l : List (List ByteArray), tl (l.flatMap fun x => (⟨#[44]⟩ : ByteArray) :: x) = tsum (fun a => tl a + 2) l := fun l => by
      induction l with
      | nil => rfl
      | cons a l ih =>
        rw [List.flatMap_cons, tl_append, tl_cons, ih]
        have : (⟨#[44]⟩ : ByteArray).size = 1 := rfl
        simp only [tsum, this]; omega
    simp only [commas, tl_append, hf, tsum]
    omega
theorem tsum_map {α β : Type} (f : α → β) (t : β → Nat) (l : List α) : tsum t (l.map f) = tsum (fun x => t (f x)) l := by
  induction l with
  | nil => rfl
  | cons a l ih => simp [tsum, ih]
theorem kindW_size (k : Int) : (kindW k).size ≤ 8 := by
  unfold kindW
  rw [List.getD]
  cases h : kindL[k.toNat]? with
  | none => simp; decide
  | some s =>
    have : kindL.all (fun s => decide (s.size ≤ 8)) = true := by decide
    simpa using List.all_eq_true.1 this s (List.mem_of_getElem? h)
theorem z1 : (⟨#[38]⟩ : ByteArray).size = 1 ∧ (⟨#[109, 117, 116]⟩ : ByteArray).size = 3 ∧ (⟨#[60]⟩ : ByteArray).size = 1 ∧ (⟨#[62]⟩ : ByteArray).size = 1 ∧ (⟨#[40]⟩ : ByteArray).size = 1 ∧ (⟨#[41]⟩ : ByteArray).size = 1 ∧ (⟨#[46]⟩ : ByteArray).size = 1 ∧ (⟨#[44]⟩ : ByteArray).size = 1 ∧ (⟨#[61]⟩ : ByteArray).size = 1 ∧ (⟨#[123]⟩ : ByteArray).size = 1 ∧ (⟨#[125]⟩ : ByteArray).size = 1 := ⟨rfl, rfl, rfl, rfl, rfl, rfl, rfl, rfl, rfl, rfl, rfl⟩
theorem ty_tl : ∀ (t : Ty) (n : Int), 0 ≤ t.room n → (tl t.tk : Int) ≤ 3 * (n - t.room n) := by
  refine Ty.ind fun t ih n h => ?_
  rw [tyRoom_eq] at h ⊢
  have h0 := fold_pos h
  obtain ⟨h1, h2⟩ := nameRoom_in h0
  have hs := fold_ts t.args (fun x hx m hm => ih x hx m hm) _ h
  have hh : tl (Ty.tkh t.args) ≤ tsum (fun x => tl x.tk) t.args := by
    cases t.args with
    | nil => exact Nat.zero_le _
    | cons x l => simp only [Ty.tkh, tsum]; omega
  have hk := kindW_size t.kind
  obtain ⟨z1, z2, z3, z4, _⟩ := z1
  rw [tyTk_eq]
  repeat' split
  all_goals (simp only [tl_cons, tl_nil, tl_append, z1, z2, z3, z4]; omega)
theorem names_ts {l : List ByteArray} {n : Int} (h : 0 ≤ namesRoom l n) : (tsum (fun s => 3 * (s.size + 5)) l : Int) ≤ 3 * (n - 5 - namesRoom l n) := by
  unfold namesRoom at h ⊢
  refine fold_ts l (fun s _ m hm => ?_) _ h
  obtain ⟨h1, h2⟩ := nameRoom_in hm
  rw [h2]; push_cast; omega
theorem pathTk_tl (l : List ByteArray) : tl (pathTk l) = tsum (fun s => s.size + 3) l := by
  induction l with
  | nil => rfl
  | cons s l ih =>
    have : (⟨#[46]⟩ : ByteArray).size = 1 := rfl
    simp only [pathTk, tl_cons, tsum, ih, this]; omega
theorem tsum_le {α : Type} {t u : α → Nat} (l : List α) (h : ∀ x ∈ l, t x ≤ u x) : tsum t l ≤ tsum u l := by
  induction l with
  | nil => exact Nat.le_refl _
  | cons a l ih =>
    have h1 := h a (by simp)
    have h2 := ih fun x hx => h x (by simp [hx])
    simp only [tsum]; omega
/-- a place: its text, and its path's names, apart -/
theorem pl_tl {x : Pl} {n : Int} (h : 0 ≤ x.room n) : (tl x.tk : Int) + 12 ≤ 3 * (n - x.room n) ∧ (tsum (fun s => 3 * (s.size + 5)) x.path : Int) + 15 ≤ 3 * (n - x.room n) := by
  unfold Pl.room at h ⊢
  have h0 := names_pos h
  obtain ⟨h1, h2⟩ := nameRoom_in h0
  have h3 := names_ts h
  have h4 : tsum (fun s : ByteArray => s.size + 3) x.path ≤ tsum (fun s => 3 * (s.size + 5)) x.path := tsum_le _ fun s _ => by omega
  unfold Pl.tk
  simp only [tl_cons, pathTk_tl]
  omega
theorem signB_size (op : Int) : (signB op).size ≤ 3 := by
  unfold signB
  repeat' split
  all_goals decide
set_option maxRecDepth 100000 in
theorem wordL_size (op : Int) : (wordL op).size ≤ 6 := by
  by_cases hop21 : op = 21
  · subst hop21; decide
  by_cases hop22 : op = 22
  · subst hop22; decide
  by_cases hop23 : op = 23
  · subst hop23; decide
  by_cases hop24 : op = 24
  · subst hop24; decide
  by_cases hop25 : op = 25
  · subst hop25; decide
  by_cases hop26 : op = 26
  · subst hop26; decide
  by_cases hop27 : op = 27
  · subst hop27; decide
  by_cases hop28 : op = 28
  · subst hop28; decide
  by_cases hop29 : op = 29
  · subst hop29; decide
  by_cases hop30 : op = 30
  · subst hop30; decide
  by_cases hop31 : op = 31
  · subst hop31; decide
  by_cases hop32 : op = 32
  · subst hop32; decide
  by_cases hop33 : op = 33
  · subst hop33; decide
  by_cases hop34 : op = 34
  · subst hop34; decide
  by_cases hop35 : op = 35
  · subst hop35; decide
  skip
  unfold wordL
  rw [if_neg hop21, if_neg hop22, if_neg hop23, if_neg hop24, if_neg hop25, if_neg hop26, if_neg hop27, if_neg hop28, if_neg hop29, if_neg hop30, if_neg hop31, if_neg hop32, if_neg hop33, if_neg hop34, if_neg hop35]
  decide
theorem itoaB_size (n : Int) (h0 : -9223372036854775808 ≤ n) (h1 : n ≤ 9223372036854775807) : (itoaB n).size ≤ 21 := by
  have := Lib.itoa_length_le n h0 h1
  show ((Lib.itoa n).toArray).size ≤ 21
  rw [List.size_toArray]; exact this
theorem parTk_tl (op least : Int) (t : List ByteArray) : tl (parTk op least t) ≤ tl t + 4 := by
  obtain ⟨_, _, _, _, z5, z6, _⟩ := z1
  unfold parTk
  split
  · simp only [tl_cons, tl_append, tl_nil, z5, z6]; omega
  · omega
theorem given_tl : ∀ (ns : List ByteArray) (ts : List (List ByteArray)), tsum (fun a => tl a + 2) (givenTk ns ts) ≤ tsum (fun s => 3 * (s.size + 5)) ns + tsum tl ts
  | [], ts => Nat.zero_le _
  | n :: ns, [] => Nat.zero_le _
  | n :: ns, a :: ts => by
    have := given_tl ns ts
    have z : (⟨#[61]⟩ : ByteArray).size = 1 := rfl
    simp only [givenTk, tsum, tl_cons, z]; omega
theorem ex_tl : ∀ (e : Ex), ExRg e → ∀ n, 0 ≤ e.room n → (tl e.tk : Int) + 6 ≤ 3 * (n - e.room n) := by
  refine Ex.ind fun e ih hr n h => ?_
  obtain ⟨⟨hi1, hi2⟩, hrs⟩ := (exRg_iff e).1 hr
  rw [exRoom_eq] at h ⊢
  have h0 := fold_pos h
  have h1 := pl_pos h0
  obtain ⟨h2, h3⟩ := nameRoom_in h1
  have h4 : 0 ≤ nameRoom e.name.size n := by omega
  obtain ⟨h5, h6⟩ := nameRoom_in h4
  have hs := fold_ts (t := fun x => tl x.tk + 6) e.args (fun x hx m hm => by have := ih x hx (hrs x hx) m hm; push_cast; omega) _ h
  obtain ⟨hp1, hp2⟩ := pl_tl h0
  have hz : (tl e.tk : Int) ≤ 3 * (e.name.size + e.second.size) + 33 + 3 * (e.place.room (nameRoom e.second.size (nameRoom e.name.size n)) - roomFold Ex.room e.args (e.place.room (nameRoom e.second.size (nameRoom e.name.size n)))) + 3 * (nameRoom e.second.size (nameRoom e.name.size n) - e.place.room (nameRoom e.second.size (nameRoom e.name.size n))) - 11 := by
    generalize roomFold Ex.room e.args (e.place.room (nameRoom e.second.size (nameRoom e.name.size n))) = R at *
    generalize e.place.room (nameRoom e.second.size (nameRoom e.name.size n)) = Q at *
    generalize nameRoom e.second.size (nameRoom e.name.size n) = T at *
    have hz := itoaB_size e.int hi1 hi2
    have hsg := signB_size e.op
    have hwd := wordL_size e.op
    obtain ⟨z1, z2, z3, z4, z5, z6, z7, z8, z9, z10, z11⟩ := z1
    have hcm : tl (commas (e.args.map Ex.tk)) ≤ tsum (fun x => tl x.tk + 6) e.args := by
      refine Nat.le_trans (tl_commas _) ?_
      rw [tsum_map]
      exact tsum_le _ fun x _ => by omega
    have hgv : tl (commas (givenTk e.place.path (e.args.map Ex.tk))) ≤ tsum (fun s => 3 * (s.size + 5)) e.place.path + tsum (fun x => tl x.tk + 6) e.args := by
      refine Nat.le_trans (tl_commas _) (Nat.le_trans (given_tl _ _) ?_)
      rw [tsum_map]
      have : tsum (fun x : Ex => tl x.tk) e.args ≤ tsum (fun x => tl x.tk + 6) e.args := tsum_le _ fun x _ => by omega
      omega
    by_cases h7 : signI e.op < 7
    · rw [exTk_eq]
      unfold exTk1
      rw [if_pos h7]
      rcases ha : e.args with _ | ⟨x, _ | ⟨y, l⟩⟩
      · simp only [List.map_nil, tl_nil]; omega
      · simp only [ha, tsum] at hs
        have := parTk_tl x.op (signI e.op) x.tk
        simp only [List.map_cons, List.map_nil, tl_cons]; push_cast at hs ⊢; omega
      · simp only [ha, tsum] at hs
        have h1 := parTk_tl x.op (if signI e.op = 3 then 4 else signI e.op) x.tk
        have h2 := parTk_tl y.op (signI e.op + 1) y.tk
        simp only [List.map_cons, tl_cons, tl_append]; push_cast at hs ⊢; omega
    · have htk := exTk_plain h7
      by_cases hop1 : e.op = 1
      · simp [hop1] at htk
        rw [htk]
        simp only [tl_cons, tl_nil, tl_append, z1, z2, z3, z4, z5, z6, z7, z8, z9, z10, z11]; omega
      by_cases hop2 : e.op = 2
      · simp [hop2] at htk
        rw [htk]
        have y1 : (⟨#[102, 97, 108, 115, 101]⟩ : ByteArray).size = 5 := rfl
        have y2 : (⟨#[116, 114, 117, 101]⟩ : ByteArray).size = 4 := rfl
        by_cases hi : e.int = 0
        · simp only [hi, if_true, tl_cons, tl_nil, y1]; omega
        · simp only [hi, if_false, tl_cons, tl_nil, y2]; omega
      by_cases hop3 : e.op = 3
      · simp [hop3] at htk
        rw [htk]
        simp only [tl_cons, tl_nil, tl_append, z1, z2, z3, z4, z5, z6, z7, z8, z9, z10, z11]; omega
      by_cases hop4 : e.op = 4
      · simp [hop4] at htk
        rw [htk]
        omega
      by_cases hop5 : e.op = 5
      · simp [hop5] at htk
        rw [htk]
        simp only [tl_cons, tl_nil, tl_append, z1, z2, z3, z4, z5, z6, z7, z8, z9, z10, z11]; omega
      by_cases hop6 : e.op = 6
      · simp [hop6] at htk
        rw [htk]
        simp only [tl_cons, tl_nil, tl_append, z1, z2, z3, z4, z5, z6, z7, z8, z9, z10, z11]; omega
      by_cases hop18 : e.op = 18
      · simp [hop18] at htk
        rw [htk]
        simp only [tl_cons, tl_nil, tl_append, z1, z2, z3, z4, z5, z6, z7, z8, z9, z10, z11]; omega
      by_cases hop19 : e.op = 19
      · simp [hop19] at htk
        rw [htk]
        simp only [tl_cons, tl_nil, tl_append, z1, z2, z3, z4, z5, z6, z7, z8, z9, z10, z11]; omega
      by_cases hop20 : e.op = 20
      · simp [hop20] at htk
        rw [htk]
        rcases ha : e.args with _ | ⟨x, l⟩
        · simp only [tl_cons, tl_nil, z7]; omega
        · simp only [ha, tsum] at hs
          simp only [tl_cons, tl_nil, tl_append, z5, z6, z7]; push_cast at hs ⊢; omega
      have hc : e.tk = wordL e.op :: (⟨#[40]⟩ : ByteArray) :: ((if sEq e.place.name emS then [] else e.place.tk ++ (if e.args.length = 0 then [] else [(⟨#[44]⟩ : ByteArray)])) ++ (commas (e.args.map Ex.tk) ++ [(⟨#[41]⟩ : ByteArray)])) := by
        rw [exTk_eq]
        unfold exTk1
        rw [if_neg h7, if_neg hop1, if_neg hop2, if_neg hop3, if_neg hop4, if_neg hop5, if_neg hop6, if_neg hop18, if_neg hop19, if_neg hop20]
        simp [Function.comp_def]
      rw [hc]
      cases sEq e.place.name emS with
      | true => simp only [if_true, tl_cons, tl_nil, tl_append, z5, z6]; omega
      | false =>
        by_cases hl : e.args.length = 0
        · simp only [hl, Bool.false_eq_true, if_true, if_false, tl_cons, tl_nil, tl_append, z5, z6]; omega
        · simp only [hl, Bool.false_eq_true, if_false, tl_cons, tl_nil, tl_append, z5, z6, z8]; omega
  omega
/-- the tokens of an expression, and of all in it, are not too long -/
inductive ExTl : Ex → Prop
  | mk (e : Ex) : tl e.tk ≤ 2000000000 → (∀ x ∈ e.args, ExTl x) → ExTl e
theorem ex_tls : ∀ (e : Ex) (n : Int), ExRg e → -10 ≤ n → n ≤ 20000 → 0 ≤ e.room n → ExTl e := by
  refine Ex.ind fun e ih n hr h1 h2 h0 => ?_
  have ht := ex_tl e hr n h0
  have h := h0
  rw [exRoom_eq] at h
  have hp := fold_pos h
  have hq := pl_pos hp
  have b := nameRoom_in hq
  have a := nameRoom_in (by omega : 0 ≤ nameRoom e.name.size n)
  have c := cst_pl e.place _ (by omega : (-10 : Int) ≤ nameRoom e.second.size (nameRoom e.name.size n)) (by omega)
  have f := fold_in e.args _ (fun x hx m a b => cst_ex x m (by omega) b) c.1 (by omega) h
  exact .mk e (by omega) fun x hx => by
    obtain ⟨m, m1, m2, m3⟩ := f.2.2 x hx
    exact ih x hx m (((exRg_iff e).1 hr).2 x hx) (by omega) (by omega) m3
end Go.Proofs.YtlnoacoanfhdcaaGreatDoor

namespace Go.Proofs.YtlnoacoanfhdcaaGreatDoor
open Go.RowKit
attribute [local simp] List.replicate List.range List.range.loop resA resOne retA
set_option linter.unusedVariables false
set_option linter.unusedSimpArgs false

/-- a list that begins, ahead of a call -/
theorem ADet.ghost {P : Program} {K : FuncId} {args : List AV} {L L' : List AObj} {R S' : ASt} {r : AV} (E : TypeId) (k : Nat) (hk : 0 < k) (hL : wkNL k L.length L L') (h : ADet P K args ((L' ++ [.tok E k 0]) :: R) r S') : ADet P K args (L :: R) r S' := by
  refine ⟨h.1, fun Pr φ xs w hargs hR hne => ?_⟩
  obtain ⟨φ', s, hf, hR', _⟩ := Leads.ghost (R := R) (L := L) (L' := L') (fr := args) (fr' := args) E k hk (by
    have : ∀ l : List AV, wkNR k L.length l l := fun l => by
      induction l with
      | nil => trivial
      | cons a l ih => exact ⟨.inr (.inl rfl), ih⟩
    exact this _) hL Pr φ { tmps := xs, defers := [] } w ⟨hargs.1, hargs.2⟩ hR hne
  refine (h.2 Pr φ' xs w ⟨hf.len, hf.at_⟩ hR' (ne_of_stp s hne)).mono fun e w' hp => ?_
  obtain ⟨x, Pr', φ'', h1, h2, h3, h4⟩ := hp
  exact ⟨x, Pr', φ'', h1, s.trans h2, h3, h4⟩
/-- an empty page -/
def pg0 : Pg := ⟨false, emS, false⟩
/-- the page's text, once tokens are written -/
def textOf (l : List ByteArray) : ByteArray := (putT l pg0).bytes
set_option maxRecDepth 100000 in
set_option maxHeartbeats 1000000 in
theorem writtenC (K : Nat) (caps : List AV) (S : ASt) (fin : Pg) (hc : ∀ L : List AObj, ∀ i j, At (L :: S) 0 i j pg0 → ADet Tryz.prog K (.ptr 0 i 0 :: AV.ups 1 caps) (L :: S) .un (upd (L :: S) 0 i j fin)) :
    ADet Tryz.prog 20 [B true, .fn (.func K) [] caps] S (Sg fin.bytes) S := by
  refine ADet.intro mixed Tryz.call20 Tryz.func20 rfl ?_
  have h := hc [.cells [.p (.v (.pointer none)), .osl 1 [] 0 1, B false] 92, .tok 5 1 0] 0 1 ⟨rfl, rfl, by decide⟩
  have h2 := ADet.ghost (L := [.cells [.p (.v (.pointer none)), nilS, B false] 92]) (L' := [.cells [.p (.v (.pointer none)), .osl 1 [] 0 1, B false] 92]) 5 1 (by decide) (by simp [wkNL, wkNR, wkN]) h
  simp [Tryz.ntmps20]
  refine ⟨_, _, h2, ?_⟩
  have hat : At (upd ([.cells [.p (.v (.pointer none)), .osl 1 [] 0 1, B false] 92, .tok 5 1 0] :: S) 0 0 1 fin) 0 0 1 fin := At.upd (p := pg0) ⟨rfl, rfl, by decide⟩ fin
  have hs := builderString (upd ([.cells [.p (.v (.pointer none)), .osl 1 [] 0 1, B false] 92, .tok 5 1 0] :: S) 0 0 1 fin) 0 0 1 (adrA fin.used 0) (B fin.line) fin.bytes hat.o hat.t
  simp
  refine ⟨_, _, hs, ?_⟩
  simp [upd]
set_option maxRecDepth 100000 in
theorem writtenN (f : AV) (S : ASt) : ADet Tryz.prog 20 [B false, f] S (Sg emS) S := by
  refine ADet.intro mixed Tryz.call20 Tryz.func20 rfl ?_
  simp [Tryz.ntmps20]
end Go.Proofs.YtlnoacoanfhdcaaGreatDoor

namespace Go.Proofs.YtlnoacoanfhdcaaGreatDoor
open Go.RowKit
attribute [local simp] List.replicate List.range List.range.loop resA resOne retA
set_option linter.unusedVariables false
set_option linter.unusedSimpArgs false

theorem WrC.new {F : Nat} {args : List AV} {l : List ByteArray} (hw : WrC F args l) {S : ASt} {i j : Nat} (h : At S 0 i j pg0) (hb : tl l ≤ 4294967296) : ADet Tryz.prog F (.ptr 1 i 0 :: args) ([] :: S) .un ([] :: upd S 0 i j (putT l pg0)) := by
  have := hw _ _ i j _ (h.push []) (by show (0 : Nat) + tl l ≤ _; omega)
  rw [upd_suc] at this
  exact this

set_option maxRecDepth 100000 in
set_option maxHeartbeats 1000000 in
theorem showType1 (x : Ty) (hsm : TySm x) (hw : x.whole 40 = true) (hb : tl x.tk ≤ 4294967296) (L L0 : List AObj) (S : ASt) (i j : Nat) (hL : L0[0]? = some (.cells [U x.kind, Sg x.name, .p (.sl 3 (x.args.map Ty.enc))] 38)) (h : At (L :: L0 :: S) 0 i j pg0) :
    ADet Tryz.prog 39 [.ptr 0 i 0, .ptr 1 0 0] (L :: L0 :: S) .un (upd (L :: L0 :: S) 0 i j (putT x.tk pg0)) := by
  have hwr := kindC x 40 hw
  refine ADet.intro mixed Tryz.call39 Tryz.func39 rfl ?_
  simp [Tryz.ntmps39, hL]
  refine ⟨_, _, hwr.new h hb, ?_⟩
  simp
set_option maxRecDepth 100000 in
set_option maxHeartbeats 1000000 in
theorem showTypeC (x : Ty) (hsm : TySm x) (hb : tl x.tk ≤ 4294967296) (S : ASt) : ADet Tryz.prog 13 [tyV x] S (Sg (if x.whole 40 then textOf x.tk else emS)) S := by
  refine ADet.intro mixed Tryz.call13 Tryz.func13 rfl ?_
  simp [Tryz.ntmps13]
  refine ⟨_, _, wholeType40 x hsm _, ?_⟩
  simp
  cases hw : x.whole 40 with
  | false =>
    refine ⟨_, _, writtenN _ _, ?_⟩
    simp
  | true =>
    refine ⟨_, _, writtenC 39 [.ptr 0 0 0] _ (putT x.tk pg0) (fun L i j h => ?_), ?_⟩
    · exact showType1 x hsm hw hb L _ S i j rfl h
    · simp [textOf]

set_option maxRecDepth 100000 in
set_option maxHeartbeats 1000000 in
theorem showPlace1 (x : Pl) (hsm : PlSm x) (hw : x.whole = true) (hb : tl x.tk ≤ 4294967296) (L L0 : List AObj) (S : ASt) (i j : Nat) (hL : L0[0]? = some (.cells [Sg x.name, .p (strs x.path)] 32)) (h : At (L :: L0 :: S) 0 i j pg0) :
    ADet Tryz.prog 42 [.ptr 0 i 0, .ptr 1 0 0] (L :: L0 :: S) .un (upd (L :: L0 :: S) 0 i j (putT x.tk pg0)) := by
  have hwr := placeW x
  refine ADet.intro mixed Tryz.call42 Tryz.func42 rfl ?_
  simp [Tryz.ntmps42, hL]
  refine ⟨_, _, hwr.new h hb, ?_⟩
  simp
set_option maxRecDepth 100000 in
set_option maxHeartbeats 1000000 in
theorem showPlaceC (x : Pl) (hsm : PlSm x) (hb : tl x.tk ≤ 4294967296) (S : ASt) : ADet Tryz.prog 14 [plV x] S (Sg (if x.whole then textOf x.tk else emS)) S := by
  refine ADet.intro mixed Tryz.call14 Tryz.func14 rfl ?_
  simp [Tryz.ntmps14]
  refine ⟨_, _, wholePlaceC x hsm _, ?_⟩
  simp
  cases hw : x.whole with
  | false =>
    refine ⟨_, _, writtenN _ _, ?_⟩
    simp
  | true =>
    refine ⟨_, _, writtenC 42 [.ptr 0 0 0] _ (putT x.tk pg0) (fun L i j h => ?_), ?_⟩
    · exact showPlace1 x hsm hw hb L _ S i j rfl h
    · simp [textOf]

set_option maxRecDepth 100000 in
set_option maxHeartbeats 1000000 in
theorem showExpr1 (x : Ex) (hsm : ExSm x) (hr : ExRg x) (hw : exWhole1 x = true) (hb : tl x.tk ≤ 4294967296) (L L0 : List AObj) (S : ASt) (i j : Nat) (hL : L0[0]? = some (.cells [U x.op, I x.int, Sg x.name, Sg x.second, Sg x.place.name, .p (strs x.place.path), .p (.sl 8 (x.args.map Ex.enc)), I x.pos] 35)) (h : At (L :: L0 :: S) 0 i j pg0) :
    ADet Tryz.prog 36 [.ptr 0 i 0, .ptr 1 0 0] (L :: L0 :: S) .un (upd (L :: L0 :: S) 0 i j (putT x.tk pg0)) := by
  have hwr : WrC 37 [exV x, I 0] x.tk := by
    have := exprW x 40 (by simp only [exWhole1, Bool.and_eq_true] at hw; exact hw.2) hr 0
    rwa [parTk_0] at this
  refine ADet.intro mixed Tryz.call36 Tryz.func36 rfl ?_
  simp [Tryz.ntmps36, hL]
  refine ⟨_, _, hwr.new h hb, ?_⟩
  simp
set_option maxRecDepth 100000 in
set_option maxHeartbeats 1000000 in
theorem showExprC (x : Ex) (hsm : ExSm x) (hr : ExRg x) (hb : tl x.tk ≤ 4294967296) (S : ASt) : ADet Tryz.prog 11 [exV x] S (Sg (if exWhole1 x then textOf x.tk else emS)) S := by
  refine ADet.intro mixed Tryz.call11 Tryz.func11 rfl ?_
  simp [Tryz.ntmps11]
  refine ⟨_, _, wholeExpr40 x hsm _, ?_⟩
  simp
  cases hw : exWhole1 x with
  | false =>
    refine ⟨_, _, writtenN _ _, ?_⟩
    simp
  | true =>
    refine ⟨_, _, writtenC 36 [.ptr 0 0 0] _ (putT x.tk pg0) (fun L i j h => ?_), ?_⟩
    · exact showExpr1 x hsm hr hw hb L _ S i j rfl h
    · simp [textOf]
end Go.Proofs.YtlnoacoanfhdcaaGreatDoor

namespace Go.Proofs.YtlnoacoanfhdcaaGreatDoor
open Go.RowKit
set_option linter.unusedVariables false
set_option linter.unusedSimpArgs false

theorem putT_line (l : List ByteArray) : ∀ (p : Pg), p.line = true → (putT l p).bytes = l.foldl (fun b t => b ++ (⟨#[32]⟩ : ByteArray) ++ t) p.bytes := by
  induction l with
  | nil => intro p _; rfl
  | cons s l ih =>
    intro p hp
    obtain ⟨u, b, k⟩ := p
    simp only at hp
    subst hp
    rw [putT_cons, ih _ (by rfl), List.foldl_cons]
    rfl
theorem textOf_line (l : List ByteArray) : textOf l = lineB l := by
  unfold textOf
  cases l with
  | nil => rfl
  | cons s l =>
    rw [putT_cons, putT_line l _ (by rfl)]
    show l.foldl _ (emS ++ s) = _
    rw [em_append]
    rfl
end Go.Proofs.YtlnoacoanfhdcaaGreatDoor
