/- Programs whose types are right, in plain words: tables.Check's faults can be told, there are few of them; steps from owned types. No statement is proved here. -/
import Derived.Test.YtnblhbpfgdjnkaaGreatDoorMTc
import Derived.Test.YtnblhbpfgdjnkaaGreatDoorMTy
namespace Go.Proofs.YtnblhbpfgdjnkaaGreatDoor
open Go.RowKit
set_option linter.unusedVariables false
set_option linter.unusedSimpArgs false
theorem allUp_eqO {α : Type} (p : α → Bool) (l : List α) (m : Int) : allUp p l m = (decide ((l.length : Int) ≤ m) && l.all p) := by
  by_cases h : (l.length : Int) ≤ m
  · rw [allUp_all h]; simp [h]
  · simp [allUp, h]

/-! ### How many faults there may be -/
theorem fold_wt {α : Type} {g : α → Int → Int} {wt : α → List Flt} : ∀ (l : List α) (n : Int), (∀ x ∈ l, ∀ m, 0 ≤ m → m ≤ 20000 → 0 ≤ g x m → ((wt x).length : Int) + g x m ≤ m) → n ≤ 20000 → 0 ≤ roomFold g l n → ((l.flatMap wt).length : Int) + roomFold g l n ≤ n
  | [], n, H, h2, h => by simp [roomFold]
  | x :: l, n, H, h2, h => by
    have h0 := fold_pos h
    have e : roomFold g (x :: l) n = roomFold g l (g x n) := by rw [roomFold, if_neg (by omega)]
    rw [e] at h ⊢
    have h1 := fold_pos h
    have a := H x (List.mem_cons_self ..) n h0 h2 h1
    have b := fold_wt (wt := wt) l (g x n) (fun y hy => H y (List.mem_cons_of_mem _ hy)) (by omega) h
    simp only [List.flatMap_cons, List.length_append]
    omega
theorem wrongL_len (b : Bool) (e a : Int) : (wrongL b e a).length ≤ 1 := by
  unfold wrongL; split <;> simp
theorem tabs_wt : ∀ (s : St) (n : Int), 0 ≤ n → n ≤ 20000 → 0 ≤ s.room n → (s.tabs.length : Int) + s.room n ≤ n := by
  refine St.ind fun s ih1 ih2 ih3 n h1 h2 h => ?_
  rw [stRoom_eq] at h ⊢
  by_cases hx : roomFold Ex.room s.exprs (s.room1 n) < 0
  · rw [if_pos hx] at h; omega
  rw [if_neg hx] at h ⊢
  have a := st1_le s n (by omega) (by omega)
  have hx0 : 0 ≤ roomFold Ex.room s.exprs (s.room1 n) := by omega
  have h0 := fold_pos hx0
  have b1 := exs_le s.exprs (s.room1 n) a.1 (by omega)
  have hE := fold_pos h
  have hB := fold_pos hE
  have w1 := fold_wt (wt := St.tabs) s.body _ ih1 (by omega) hB
  have w2 := fold_wt (wt := St.tabs) s.els _ ih2 (by omega) hE
  have w3 := fold_wt (g := Ar.room) (wt := fun a => St.tabss a.body) s.arms _ (fun x hx m m0 m1 m2 => by
    rw [arRoom_eq] at m2 ⊢
    have k2 := nameRoom_in (fold_pos m2)
    have k1 := nameRoom_in (by omega : 0 ≤ nameRoom x.variant.size m)
    have := fold_wt (wt := St.tabs) x.body _ (ih3 x hx) (by omega) m2
    rw [← tabss_flat] at this
    omega) (by omega) h
  rw [← tabss_flat] at w1 w2
  rw [stTabs]
  simp only [List.length_append]
  have := wrongL_len ((s.op != 12) || (s.type.stands && s.type.owned)) 70 s.pos
  omega
theorem it_wt (p : List It) (k : Nat) (x : It) (n : Int) (h1 : 0 ≤ n) (h2 : n ≤ 20000) (h : 0 ≤ x.room n) : ((x.tabsD p k).length : Int) + x.room n ≤ n := by
  have e0 : x.room n = x.ret.room (roomFold St.room x.body (x.result.room (roomFold Fi.room x.fields (nameRoom x.name.size n)))) := rfl
  rw [e0] at h ⊢
  generalize hb : roomFold St.room x.body (x.result.room (roomFold Fi.room x.fields (nameRoom x.name.size n))) = rb at *
  have a := nameRoom_cost x.name.size n (by omega)
  have b := fold_le x.fields _ (fun x _ m a b => cst_fi x m a b) (by omega : (-6 : Int) ≤ nameRoom x.name.size n) (by omega)
  have c := cst_ty x.result _ (by omega : (-10 : Int) ≤ roomFold Fi.room x.fields (nameRoom x.name.size n)) (by omega)
  have d := sts_le x.body _ c.1 (by omega)
  rw [hb] at d
  have e := cst_ex x.ret rb (by omega) (by omega)
  have hb0 : 0 ≤ rb := by
    rw [exRoom_eq] at h
    have k2 := nameRoom_in (pl_pos (fold_pos h))
    have k1 := nameRoom_in (by omega : 0 ≤ nameRoom x.ret.name.size rb)
    omega
  have e2 := hb0
  rw [← hb] at e2
  have e1 := fold_pos e2
  have hf : 0 ≤ roomFold Fi.room x.fields (nameRoom x.name.size n) := by
    have := e1
    rw [tyRoom_eq] at this
    have := nameRoom_in (fold_pos this)
    omega
  have hn := fold_pos hf
  have w1 := fold_wt (g := Fi.room) (wt := fun f => wrongL (f.type.stands && ((x.kind == 3) || f.type.owned)) 70 x.pos) x.fields (nameRoom x.name.size n) (fun f _ m m0 m1 m2 => by
    have := cst_fi f m (by omega) (by omega)
    have := wrongL_len (f.type.stands && ((x.kind == 3) || f.type.owned)) 70 x.pos
    omega) (by omega) hf
  have w2 := fold_wt (wt := St.tabs) x.body _ (fun s _ => tabs_wt s) (by omega) e2
  rw [← tabss_flat, hb] at w2
  have l1 := wrongL_len (x.result.stands && x.result.owned) 70 x.pos
  have ht : (x.tabsD p k).length ≤ (x.fields.flatMap fun f => wrongL (f.type.stands && ((x.kind == 3) || f.type.owned)) 70 x.pos).length + (1 + ((St.tabss x.body).length + 1)) := by
    unfold It.tabsD It.tabs
    simp only
    split
    · simp only [Option.getD_some, List.length_append]
      omega
    · cases foundF p x.name k x.fields [] with
      | none => simp
      | some r =>
        have := wrongL_len (!r.1) 71 x.pos
        simp only [Option.map_some, Option.getD_some, List.length_append]
        omega
  omega

/-! ### They can be told -/
def cntG (p : List It) (gone : List ByteArray) : Nat := p.countP fun x => !(gone.any fun g => sEq x.name g)
theorem countP_lt1 {α : Type} {P Q : α → Bool} : ∀ {l : List α} {z : α}, (∀ x ∈ l, P x = true → Q x = true) → z ∈ l → Q z = true → P z = false → l.countP P + 1 ≤ l.countP Q
  | x :: l, z, h, hz, hQ, hP => by
    rw [List.countP_cons, List.countP_cons]
    have hm : l.countP P ≤ l.countP Q := List.countP_mono_left fun y hy => h y (List.mem_cons_of_mem _ hy)
    rcases List.mem_cons.1 hz with rfl | hz'
    · rw [hQ, hP]; simp; omega
    · have := countP_lt1 (fun y hy => h y (List.mem_cons_of_mem _ hy)) hz' hQ hP
      have hx := h x (List.mem_cons_self ..)
      cases hp : P x with
      | true => rw [hx hp]; simp; omega
      | false => simp; omega
theorem cnt_mono (p : List It) (gone : List ByteArray) (s : ByteArray) : cntG p (gone ++ [s]) ≤ cntG p gone :=
  List.countP_mono_left fun x hx h => by
    simp only [Bool.not_eq_true', List.any_append, Bool.or_eq_false_iff] at h ⊢
    exact h.1
theorem cnt_lt {p : List It} {gone : List ByteArray} {s : ByteArray} {z : It} (hz : firstIt p s = some z) (hg : ¬ gone.any (fun g => sEq s g) = true) : cntG p (gone ++ [s]) + 1 ≤ cntG p gone := by
  have hm : z ∈ p := List.mem_of_find?_eq_some hz
  have hs := List.find?_some hz
  simp only [Bool.and_eq_true] at hs
  have hn : z.name = s := sEq_iff.1 hs.2
  refine countP_lt1 (fun x hx h => ?_) hm ?_ ?_
  · simp only [Bool.not_eq_true', List.any_append, Bool.or_eq_false_iff] at h ⊢
    exact h.1
  · rw [hn]; simpa using hg
  · simp only [List.any_append, List.any_cons, List.any_nil, hs.2]; simp
theorem found_total {p : List It} {nm : ByteArray} (hf : ∀ x ∈ p, x.fields.length ≤ 6) : ∀ (n : Nat) (fs : List Fi) (gone : List ByteArray), cntG p gone * 7 + fs.length ≤ n → ∃ r, foundF p nm n fs gone = some r ∧ cntG p r.2 ≤ cntG p gone := by
  intro n
  induction n with
  | zero =>
    intro fs gone h
    cases fs with
    | nil => exact ⟨(false, gone), by simp [foundF], Nat.le_refl _⟩
    | cons f fs => simp at h
  | succ n ih =>
    intro fs gone h
    cases fs with
    | nil => exact ⟨(false, gone), by simp [foundF], Nat.le_refl _⟩
    | cons f fs =>
      simp only [List.length_cons] at h
      have cm := cnt_mono p gone f.type.name
      unfold foundF
      by_cases h1 : f.type.kind ≠ 4
      · rw [if_pos h1]; exact ih fs gone (by omega)
      rw [if_neg h1]
      by_cases h2 : sEq f.type.name nm = true
      · rw [if_pos h2]; exact ⟨_, rfl, Nat.le_refl _⟩
      rw [if_neg h2]
      by_cases h3 : gone.any (fun g => sEq f.type.name g) = true
      · rw [if_pos h3]; exact ih fs gone (by omega)
      rw [if_neg h3]
      cases h4 : firstIt p f.type.name with
      | none =>
        obtain ⟨r, a, b⟩ := ih fs (gone ++ [f.type.name]) (by omega)
        exact ⟨r, a, by omega⟩
      | some z =>
        have lt := cnt_lt h4 h3
        have hz := hf z (List.mem_of_find?_eq_some h4)
        obtain ⟨⟨b1, g⟩, a, b⟩ := ih z.fields (gone ++ [f.type.name]) (by omega)
        simp only at b
        simp only [a]
        cases b1 with
        | true => exact ⟨_, rfl, by show cntG p g ≤ _; omega⟩
        | false =>
          obtain ⟨r2, a2, b2⟩ := ih fs g (by omega)
          exact ⟨r2, a2, by omega⟩
theorem whole_fields {p : List It} (hp : prWhole p = true) : p.length ≤ 30 ∧ ∀ x ∈ p, x.fields.length ≤ 6 := by
  unfold prWhole at hp
  rw [allUp_eqO] at hp
  simp only [Bool.and_eq_true, List.all_eq_true, decide_eq_true_eq] at hp
  refine ⟨by omega, fun x hx => ?_⟩
  have hw := hp.2 x hx
  unfold It.whole at hw
  split at hw
  · rw [allUp_eqO] at hw
    simp only [Bool.and_eq_true, decide_eq_true_eq] at hw
    have := hw.2.1
    omega
  · split at hw
    · rw [allUp_eqO] at hw
      simp only [Bool.and_eq_true, decide_eq_true_eq] at hw
      have := hw.2.1.1
      omega
    · cases hw
theorem its_total {p : List It} (hp : prWhole p = true) : ∀ (l : List It), (∀ x ∈ l, x ∈ p) → ∃ fs, itsTabs p 300 l = some fs
  | [], h => ⟨[], rfl⟩
  | x :: l, h => by
    obtain ⟨fs, hfs⟩ := its_total hp l fun y hy => h y (List.mem_cons_of_mem _ hy)
    obtain ⟨h30, h6⟩ := whole_fields hp
    have hx := h6 x (h x (List.mem_cons_self ..))
    have hc : cntG p [] ≤ p.length := List.countP_le_length
    obtain ⟨r, hr, _⟩ := found_total (nm := x.name) h6 300 x.fields [] (by omega)
    obtain ⟨a, ha⟩ : ∃ a, x.tabs p 300 = some a := by
      unfold It.tabs
      simp only [hr, Option.map_some]
      split <;> exact ⟨_, rfl⟩
    exact ⟨a ++ fs, by unfold itsTabs; simp only [ha, hfs]⟩
theorem check_told {p : List It} (h : great p = false) : ∃ fs, checkT p 300 = some fs ∧ fs.length ≤ 20000 := by
  unfold checkT
  cases hp : prWhole p with
  | false => exact ⟨_, if_neg (by simp), by simp⟩
  | true =>
    obtain ⟨fs, hfs⟩ := its_total hp p fun x hx => hx
    refine ⟨fs, by rw [if_pos rfl]; exact hfs, ?_⟩
    have h0 : 0 ≤ roomFold It.room p 20000 := by simpa [great] using h
    have := fold_wt (wt := It.tabsD p 300) p 20000 (fun x _ m m0 m1 m2 => it_wt p 300 x m m0 m1 m2) (by omega) h0
    rw [← (itsTabs_all hfs).1] at this
    omega

/-! ### Steps from what is owned -/
theorem step_owned {p : List It} (hc : checkT p 300 = some []) {t : Ty} (ht : t.owned = true) {s : ByteArray} {u : Ty} {c : Bool} (hs : stepT p t s = some (u, c)) : u.owned = true := by
  have hq : ∀ b, ptrT b t s = some (u, c) → u.owned = true := fun b hb => by
    unfold ptrT at hb
    split at hb
    · obtain ⟨v, hv, he⟩ := Option.map_eq_some_iff.1 hb
      cases he
      rw [owned_eq] at ht
      simp only [Bool.and_eq_true, List.all_eq_true] at ht
      exact ht.2 _ (List.mem_of_head? hv)
    · cases hb
  unfold stepT at hs
  split at hs
  · unfold fieldT1 at hs
    obtain ⟨f, hf, he⟩ := Option.map_eq_some_iff.1 hs
    cases he
    have hm := List.mem_of_find?_eq_some hf
    unfold struct1T at hm
    cases hx : firstIt p t.name with
    | none => rw [hx] at hm; simp at hm
    | some x =>
      rw [hx] at hm
      simp only at hm
      split at hm
      · rename_i hk
        have hxm : x ∈ p := List.mem_of_find?_eq_some hx
        unfold checkT at hc
        split at hc
        · obtain ⟨e, hall⟩ := itsTabs_all hc
          have hd : x.tabsD p 300 = [] := by
            have := List.flatMap_eq_nil_iff.1 e.symm x hxm
            exact this
          have hx2 := hall x hxm
          rw [hd] at hx2
          unfold It.tabs at hx2
          simp only [hk] at hx2
          obtain ⟨r, _, hr⟩ := Option.map_eq_some_iff.1 hx2
          have h1 := (List.append_eq_nil_iff.1 hr).1
          have h2 := (List.append_eq_nil_iff.1 h1).1
          have h3 := List.flatMap_eq_nil_iff.1 h2 f (by simpa using hm)
          unfold wrongL at h3
          split at h3
          · rename_i h4
            simp at h4
            exact h4.2
          · cases h3
        · cases hc
      · simp at hm
  · split at hs
    · exact hq _ hs
    · split at hs
      · exact hq _ hs
      · cases hs
end Go.Proofs.YtnblhbpfgdjnkaaGreatDoor
