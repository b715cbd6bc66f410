/- Is a type whole? The program's tree.WholeType, the reference's Type. -/
import Derived.Test.YtkgpkbclfncnfaaDoorRows
import Derived.Test.YtkgpkbclfncnfaaDoorLexR
import Derived.Test.YtkgpkbclfncnfaaDoorAllT
import Derived.Deep.QuietTactic
import Derived.BigQuiet
import Derived.Deep.RegionHeld3
namespace Go.Proofs.YtkgpkbclfncnfaaDoor
open Go.RowKit
set_option linter.unusedVariables false

/-- a kind without anything within -/
def plainKind (k : Int) : Bool := k == 1 || k == 2 || k == 3 || k == 10
mutual
def Ty.whole : Ty → Int → Bool
  | .mk k s l, d => decide (0 < d) && (decide (1 ≤ k) && (decide (k ≤ 14) &&
    (if plainKind k then s.toList.isEmpty && decide (l.length = 0) else if k = 4 then typeB s && decide (l.length = 0) else s.toList.isEmpty && (decide (l.length = 1) && Ty.wholeAll l (d - 1)))))
def Ty.wholeAll : List Ty → Int → Bool
  | [], _ => true
  | t :: l, d => t.whole d && Ty.wholeAll l d
end
theorem wholeAll_iff (l : List Ty) (d : Int) : Ty.wholeAll l d = l.all fun t => t.whole d := by
  induction l with
  | nil => rfl
  | cons t l ih => simp [Ty.wholeAll, ih]
theorem whole_eq (t : Ty) (d : Int) : t.whole d = (decide (0 < d) && (decide (1 ≤ t.kind) && (decide (t.kind ≤ 14) &&
    (if plainKind t.kind then t.name.toList.isEmpty && decide (t.args.length = 0) else if t.kind = 4 then typeB t.name && decide (t.args.length = 0) else t.name.toList.isEmpty && (decide (t.args.length = 1) && t.args.all fun x => x.whole (d - 1)))))) := by
  cases t with | mk k s l => simp only [Ty.whole, wholeAll_iff]; rfl
theorem whole_neg {t : Ty} {d : Int} (h : ¬ 0 < d) : t.whole d = false := by rw [whole_eq]; simp [h]
theorem whole_out {t : Ty} {d : Int} (h : ¬ (1 ≤ t.kind ∧ t.kind ≤ 14)) : t.whole d = false := by
  rw [whole_eq]
  by_cases h1 : 1 ≤ t.kind
  · have h2 : ¬ t.kind ≤ 14 := fun h2 => h ⟨h1, h2⟩
    simp [h2]
  · simp [h1]
theorem whole_plain {t : Ty} {d : Int} (h0 : 0 < d) (hk : plainKind t.kind = true) : t.whole d = (t.name.toList.isEmpty && decide (t.args.length = 0)) := by
  rw [whole_eq]
  have : 1 ≤ t.kind ∧ t.kind ≤ 14 := by simp [plainKind] at hk; omega
  simp [h0, hk, this]
theorem whole_named {t : Ty} {d : Int} (h0 : 0 < d) (hk : t.kind = 4) : t.whole d = (typeB t.name && decide (t.args.length = 0)) := by
  rw [whole_eq]
  simp [h0, hk, plainKind]
theorem whole_wrap {t : Ty} {d : Int} (h0 : 0 < d) (h1 : 1 ≤ t.kind) (h2 : t.kind ≤ 14) (hk : plainKind t.kind = false) (h4 : ¬ t.kind = 4) : t.whole d = (t.name.toList.isEmpty && (decide (t.args.length = 1) && t.args.all fun x => x.whole (d - 1))) := by
  rw [whole_eq]
  simp [h0, h1, h2, hk, h4]

theorem below_drewN {B : Nat} {a w : World} (h : Below B a w) (n : Nat) : Below B a (w.drewN n) := ⟨h.os, h.tape, h.output, h.size, h.block⟩

set_option maxRecDepth 100000 in
set_option maxHeartbeats 2000000 in
theorem wholeType_any : ∀ (t : Ty) (S : Nat → Prop) (f : Nat → Value) (d : Int) (w : World), TyIn w S t f → -1 ≤ d → d ≤ 1000 → Tab w →
    Calls Tryd.prog 14 #[.agg #[f 0, f 1, f 2], .int .i64 d] w fun e w' => e = .returned (.bool (t.whole d)) ∧ Below w.heap.size w w' := by
  refine Ty.ind fun t ih S f d w h hd1 hd2 htab => ?_
  obtain ⟨h0, hk0, hk1, h1, hs, hsl⟩ := TyIn.iff.1 h
  have Hc : 0 < d → Hid (∀ w1, Below w.heap.size w w1 → w.heap.size + 1 < w1.heap.size → w1.cell? ⟨w.heap.size + 1, 0, none⟩ = some (.int .i64 d) → Calls Tryd.prog 18 #[f 2, .int .i64 1, .func (.func 19) #[] #[.pointer (some ⟨w.heap.size + 1, 0, none⟩)]] w1
      fun e w' => e = .returned (.bool (allUp (fun x => x.whole (d - 1)) t.args 1)) ∧ Below w1.heap.size w1 w') := by
    intro hd w1 hw1 hz1 hcell
    have hsl1 : RdSl w1 S 3 (TyIn w1 S) t.args (f 2) := hsl.mono (Keeps.of_below hw1) (fun _ h => h) fun x _ g hg => hg.mono (Keeps.of_below hw1) (fun _ h => h)
    refine all_Type (TyIn w1 S) (fun x => x.whole (d - 1)) 19 t.args 1 (by omega) S (f 2) w1 hsl1 #[.pointer (some ⟨w.heap.size + 1, 0, none⟩)] Tryd.call19 ?_
    intro i hi _ w2 g hb hg
    have Hi := Lib.hid (ih _ (List.getElem_mem hi) S g)
    have hg2 := Lib.hid (fun w3 h => hg.mono (Keeps.of_below (h : Below w1.heap.size w1 w3)) (fun _ h => h))
    have ht2 := Lib.hid (fun w3 h => (htab.below hw1).below (h : Below w1.heap.size w1 w3))
    have hc2 := Lib.hid (fun w3 h => keepc (h : Below w1.heap.size w1 w3) hcell)
    have o0 := fun a w => run_store Tryd.prog w a (g 0) .plain (hg.one 0 (by omega))
    have o1 := fun a w => run_store Tryd.prog w a (g 1) .plain (hg.one 1 (by omega))
    have o2 := fun a w => run_store Tryd.prog w a (g 2) .plain (hg.one 2 (by omega))
    have hba := Lib.hid (fun o => (hb.alloc hb.size o : Below w1.heap.size w1 (w2.alloc o)))
    have c3 : ∀ o, (w2.alloc o).cell? ⟨w.heap.size + 1, 0, none⟩ = some (.int .i64 d) := fun o => hc2.out _ (hba.out o)
    clear hg hsl h0 h1 ih hcell htab hsl1
    show Calls Tryd.prog 19 #[.agg #[g 0, g 1, g 2], .pointer (some ⟨w.heap.size + 1, 0, none⟩)] _ _
    go_enter Tryd.func19, Tryd.ntmps19
    go_wp2_with (go_at_call 14; refine (Hi.out (d - 1) _ (hg2.out _ (hba.out _)) (by omega) (by omega) (ht2.out _ (hba.out _))).mono ?_; rintro e w3 ⟨rfl, hb3⟩)
    go_ret
    exact ⟨rfl, ((Below.refl _ _).alloc (Nat.le_refl _) _).trans (hb3.mono (by simp))⟩
  have Ht := Lib.hid (fun w1 hb => type_any t.name hs w1 (htab.below (hb : Below w.heap.size w w1)))
  obtain ⟨A, cap, h2, hl, hc, hel⟩ := hsl.open_
  clear hel
  rw [h2] at Hc
  rw [h0, h1, h2]
  clear ih h0 h1 h2 hsl h htab
  have hB0 : Hid (∀ o o', Below w.heap.size w ((w.alloc o).alloc o')) := fun o o' => ((Below.refl _ _).alloc (Nat.le_refl _) _).alloc (by simp) _
  have hall0 : Hid (t.args.length = 0 → allUp (fun x => x.whole (d - 1)) t.args 1 = true) := fun h0 => by
    have : t.args = [] := List.eq_nil_of_length_eq_zero h0
    rw [this]; rfl
  have hall1 : Hid (t.args.length = 1 → allUp (fun x => x.whole (d - 1)) t.args 1 = t.args.all fun x => x.whole (d - 1)) := fun h0 => allUp_all (by omega)
  have hvP := Lib.hid (fun h => whole_plain (t := t) (d := d) h)
  have hvN := Lib.hid (fun h => whole_named (t := t) (d := d) h)
  have hvW := Lib.hid (fun h => whole_wrap (t := t) (d := d) h)
  have hvO := Lib.hid (fun h => whole_out (t := t) (d := d) h)
  have hvD := Lib.hid (fun h => whole_neg (t := t) (d := d) h)
  generalize hau : allUp (fun x => x.whole (d - 1)) t.args 1 = au at *
  generalize hau2 : (t.args.all fun x => x.whole (d - 1)) = au2 at *
  generalize hkk : t.kind = k at *
  generalize hnn : t.args.length = n at *
  generalize hvv : t.whole d = v at *
  generalize htt : typeB t.name = tb at *
  generalize hss : t.name = s at *
  clear hau hau2 hkk hnn hvv htt hss
  have hbd : Hid (∀ o o' q, Below w.heap.size w (((w.alloc o).alloc o').drewN q)) := fun o o' q => below_drewN (hB0.out o o') q
  by_cases hd : 0 < d
  · have Hc' := Hc hd
    clear Hc
    by_cases hkr : 1 ≤ k ∧ k ≤ 14
    · obtain ⟨hkr1, hkr2⟩ := hkr
      by_cases hk4 : k = 4
      · subst hk4
        have hv := Lib.hid (hvN.out hd rfl)
        clear hvP hvN hvW hvO hvD hall1
        have hn0 : n = 0 ∨ ¬ n = 0 := by omega
        cases tb with
        | false =>
          go_enter Tryd.func14, Tryd.ntmps14
          go_wp2
          go_quiet (fail)
          go_wp2_with fail
          refine (Ht.out _ (hbd.out _ _ _)).mono ?_
          rintro e w1 ⟨rfl, hb1⟩
          have hz := hb1.size
          have hb := (hbd.out _ _ _).trans (hb1.mono (by simp; omega))
          have k0 : w1.cell? ⟨w.heap.size, 0, none⟩ = some (.int .u8 4) := by rw [(bcell hb1).1 _ _ (by simp; omega)]; simp [go_sem]
          have k1 : w1.cell? ⟨w.heap.size, 2, none⟩ = some (.slice A n cap) := by rw [(bcell hb1).1 _ _ (by simp; omega)]; simp [go_sem]
          have k2 : w1.cell? ⟨w.heap.size + 1, 0, none⟩ = some (.int .i64 d) := by rw [(bcell hb1).1 _ _ (by simp)]; simp [go_sem]
          clear hb1
          go_wp2
          go_ret
          exact ⟨by rw [hv.out]; rfl, hb⟩
        | true =>
          rcases hn0 with rfl | hn0
          · have hau := hall0.out rfl
            subst hau
            go_enter Tryd.func14, Tryd.ntmps14
            go_wp2
            go_quiet (fail)
            go_wp2_with fail
            refine (Ht.out _ (hbd.out _ _ _)).mono ?_
            rintro e w1 ⟨rfl, hb1⟩
            have hz := hb1.size
            have hb := (hbd.out _ _ _).trans (hb1.mono (by simp; omega))
            have k0 : w1.cell? ⟨w.heap.size, 0, none⟩ = some (.int .u8 4) := by rw [(bcell hb1).1 _ _ (by simp; omega)]; simp [go_sem]
            have k1 : w1.cell? ⟨w.heap.size, 2, none⟩ = some (.slice A 0 cap) := by rw [(bcell hb1).1 _ _ (by simp; omega)]; simp [go_sem]
            have k2 : w1.cell? ⟨w.heap.size + 1, 0, none⟩ = some (.int .i64 d) := by rw [(bcell hb1).1 _ _ (by simp)]; simp [go_sem]
            have Hcc := Lib.hid (Hc'.out _ hb (by simp at hz; omega) k2)
            clear hb1
            go_wp2_with (go_at_call 18; refine Hcc.out.mono ?_; rintro e w2 ⟨rfl, hb2⟩)
            go_ret
            exact ⟨by rw [hv.out]; rfl, hb.trans (hb2.mono hb.size)⟩
          · have hn1 : ((n : Int) == 0) = false := by simp; omega
            go_enter Tryd.func14, Tryd.ntmps14
            go_wp2
            go_quiet (fail)
            go_wp2_with fail
            refine (Ht.out _ (hbd.out _ _ _)).mono ?_
            rintro e w1 ⟨rfl, hb1⟩
            have hz := hb1.size
            have hb := (hbd.out _ _ _).trans (hb1.mono (by simp; omega))
            have k0 : w1.cell? ⟨w.heap.size, 0, none⟩ = some (.int .u8 4) := by rw [(bcell hb1).1 _ _ (by simp; omega)]; simp [go_sem]
            have k1 : w1.cell? ⟨w.heap.size, 2, none⟩ = some (.slice A n cap) := by rw [(bcell hb1).1 _ _ (by simp; omega)]; simp [go_sem]
            have k2 : w1.cell? ⟨w.heap.size + 1, 0, none⟩ = some (.int .i64 d) := by rw [(bcell hb1).1 _ _ (by simp)]; simp [go_sem]
            clear hb1
            go_wp2
            go_ret
            exact ⟨by rw [hv.out]; simp [hn0], hb⟩
      · have hn4 : ¬ k = 4 := hk4
        have e4 : (k == 4) = false := by simpa using hk4
        cases hpk : plainKind k with
        | true =>
          have hv := Lib.hid (hvP.out hd hpk)
          have hk : k = 1 ∨ k = 2 ∨ k = 3 ∨ k = 10 := by simpa [plainKind, or_assoc] using hpk
          clear hvP hvN hvW hvO hvD hpk hn4 e4 hk4
          by_cases he : s.toList = []
          · have he' : s.toList.isEmpty = true := by rw [he]; rfl
            by_cases hn0 : n = 0
            · subst hn0
              have hau := hall0.out rfl
              subst hau
              rcases hk with rfl | rfl | rfl | rfl
              all_goals
                go_enter Tryd.func14, Tryd.ntmps14
                go_wp2
                go_quiet (fail)
                go_wp2_with ((go_at_call 18; refine (Hc'.out _ (hbd.out _ _ _) (by simp) (by simp [go_sem])).mono ?_; rintro e w2 ⟨rfl, hb2⟩))
                go_ret
                exact ⟨by rw [hv.out, he']; rfl, (hbd.out _ _ _).trans (hb2.mono (by simp; omega))⟩
            · have hn1 : ((n : Int) == 0) = false := by simp; omega
              rcases hk with rfl | rfl | rfl | rfl
              all_goals
                go_enter Tryd.func14, Tryd.ntmps14
                go_wp2
                go_quiet (fail)
                go_wp2
                go_ret
                exact ⟨by rw [hv.out]; simp [hn0], hbd.out _ _ _⟩
          · have he' : s.toList.isEmpty = false := by simpa using he
            rcases hk with rfl | rfl | rfl | rfl
            all_goals
              go_enter Tryd.func14, Tryd.ntmps14
              go_wp2
              go_quiet (fail)
              go_wp2
              go_ret
              exact ⟨by rw [hv.out, he']; rfl, hbd.out _ _ _⟩
        | false =>
          have hv := Lib.hid (hvW.out hd hkr1 hkr2 hpk hn4)
          have hk : (¬ k = 1 ∧ ¬ k = 2) ∧ ¬ k = 3 ∧ ¬ k = 10 := by simp [plainKind] at hpk; omega
          have e1 : (k == 1) = false := by simpa using hk.1.1
          have e2 : (k == 2) = false := by simpa using hk.1.2
          have e3 : (k == 3) = false := by simpa using hk.2.1
          have e10 : (k == 10) = false := by simpa using hk.2.2
          clear hvP hvN hvW hvO hvD hpk hn4 hk4 hk
          by_cases he : s.toList = []
          · have he' : s.toList.isEmpty = true := by rw [he]; rfl
            by_cases hn1 : n = 1
            · subst hn1
              have hau := Lib.hid (hall1.out rfl)
              go_enter Tryd.func14, Tryd.ntmps14
              go_wp2
              go_quiet (fail)
              go_wp2_with ((go_at_call 18; refine (Hc'.out _ (hbd.out _ _ _) (by simp) (by simp [go_sem])).mono ?_; rintro e w2 ⟨rfl, hb2⟩))
              go_ret
              exact ⟨by rw [hv.out, he', hau.out]; simp, (hbd.out _ _ _).trans (hb2.mono (by simp; omega))⟩
            · have hn1' : ((n : Int) == 1) = false := by simp; omega
              go_enter Tryd.func14, Tryd.ntmps14
              go_wp2
              go_quiet (fail)
              go_wp2
              go_ret
              exact ⟨by rw [hv.out]; simp [hn1], hbd.out _ _ _⟩
          · have he' : s.toList.isEmpty = false := by simpa using he
            go_enter Tryd.func14, Tryd.ntmps14
            go_wp2
            go_quiet (fail)
            go_wp2
            go_ret
            exact ⟨by rw [hv.out, he']; rfl, hbd.out _ _ _⟩
    · have hv := Lib.hid (hvO.out hkr)
      clear hvP hvN hvW hvO hvD
      have hk : (¬ k = 1 ∧ ¬ k = 2) ∧ ¬ k = 3 ∧ ¬ k = 10 ∧ ¬ k = 4 := by omega
      have e1 : (k == 1) = false := by simpa using hk.1.1
      have e2 : (k == 2) = false := by simpa using hk.1.2
      have e3 : (k == 3) = false := by simpa using hk.2.1
      have e10 : (k == 10) = false := by simpa using hk.2.2.1
      have e4 : (k == 4) = false := by simpa using hk.2.2.2
      rcases (by omega : k < 1 ∨ (1 ≤ k ∧ 14 < k)) with hk1' | ⟨hk1', hk2'⟩
      all_goals clear hk hkr
      all_goals
        go_enter Tryd.func14, Tryd.ntmps14
        go_wp2
        go_quiet (fail)
        go_wp2
        go_ret
        exact ⟨by rw [hv.out]; rfl, hbd.out _ _ _⟩
  · have hv := Lib.hid (hvD.out hd)
    clear hvP hvN hvW hvO hvD Hc
    by_cases hk4 : k = 4
    · subst hk4
      go_enter Tryd.func14, Tryd.ntmps14
      go_wp2
      go_quiet (fail)
      go_wp2_with fail
      refine (Ht.out _ (hbd.out _ _ _)).mono ?_
      rintro e w1 ⟨rfl, hb1⟩
      have hz := hb1.size
      have hb := (hbd.out _ _ _).trans (hb1.mono (by simp; omega))
      have k0 : w1.cell? ⟨w.heap.size, 0, none⟩ = some (.int .u8 4) := by rw [(bcell hb1).1 _ _ (by simp; omega)]; simp [go_sem]
      have k1 : w1.cell? ⟨w.heap.size, 2, none⟩ = some (.slice A n cap) := by rw [(bcell hb1).1 _ _ (by simp; omega)]; simp [go_sem]
      have k2 : w1.cell? ⟨w.heap.size + 1, 0, none⟩ = some (.int .i64 d) := by rw [(bcell hb1).1 _ _ (by simp)]; simp [go_sem]
      clear hb1
      go_wp2
      go_ret
      exact ⟨by rw [hv.out]; rfl, hb⟩
    · have e4 : (k == 4) = false := by simpa using hk4
      by_cases h1 : k = 1
      · subst h1
        go_enter Tryd.func14, Tryd.ntmps14
        go_wp2
        go_quiet (fail)
        go_wp2
        go_ret
        exact ⟨by rw [hv.out]; rfl, hbd.out _ _ _⟩
      by_cases h2 : k = 2
      · subst h2
        go_enter Tryd.func14, Tryd.ntmps14
        go_wp2
        go_quiet (fail)
        go_wp2
        go_ret
        exact ⟨by rw [hv.out]; rfl, hbd.out _ _ _⟩
      by_cases h3 : k = 3
      · subst h3
        go_enter Tryd.func14, Tryd.ntmps14
        go_wp2
        go_quiet (fail)
        go_wp2
        go_ret
        exact ⟨by rw [hv.out]; rfl, hbd.out _ _ _⟩
      by_cases h10 : k = 10
      · subst h10
        go_enter Tryd.func14, Tryd.ntmps14
        go_wp2
        go_quiet (fail)
        go_wp2
        go_ret
        exact ⟨by rw [hv.out]; rfl, hbd.out _ _ _⟩
      have e1 : (k == 1) = false := by simpa using h1
      have e2 : (k == 2) = false := by simpa using h2
      have e3 : (k == 3) = false := by simpa using h3
      have e10 : (k == 10) = false := by simpa using h10
      clear h1 h2 h3 h10 hk4
      go_enter Tryd.func14, Tryd.ntmps14
      go_wp2
      go_quiet (fail)
      go_wp2
      go_ret
      exact ⟨by rw [hv.out]; rfl, hbd.out _ _ _⟩

set_option maxHeartbeats 400000 in
theorem whole_any (t : Ty) (S : Nat → Prop) (f : Nat → Value) (w : World) (h : TyIn w S t f) (ht : Tab w) :
    Calls Tryd.prog 9 #[.agg #[f 0, f 1, f 2]] w fun e w' => e = .returned (.bool (t.whole 40)) ∧ Below w.heap.size w w' := by
  have s0 := fun a w => run_store Tryd.prog w a (f 0) .plain (h.one 0 (by omega))
  have s1 := fun a w => run_store Tryd.prog w a (f 1) .plain (h.one 1 (by omega))
  have s2 := fun a w => run_store Tryd.prog w a (f 2) .plain (h.one 2 (by omega))
  have hb0 : Hid (∀ o, Below w.heap.size w (w.alloc o)) := fun o => (Below.refl _ _).alloc (Nat.le_refl _) o
  have H := Lib.hid (fun o => wholeType_any t S f 40 (w.alloc o) (h.mono (Keeps.of_below (hb0.out o)) (fun _ h => h)) (by omega) (by omega) (ht.below (hb0.out o)))
  clear h ht
  go_enter Tryd.func9, Tryd.ntmps9
  go_wp2_with (go_at_call 14; refine (H.out _).mono ?_; rintro e w1 ⟨rfl, hb⟩)
  go_ret
  exact ⟨rfl, (hb0.out _).trans (hb.mono (by simp))⟩
end Go.Proofs.YtkgpkbclfncnfaaDoor
