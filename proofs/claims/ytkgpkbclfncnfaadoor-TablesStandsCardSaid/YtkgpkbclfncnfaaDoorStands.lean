/- May a type stand? The program's tables.Stands, the reference's. -/
import Derived.Test.YtkgpkbclfncnfaaDoorRows
import Derived.Test.YtkgpkbclfncnfaaDoorWholeT
import Derived.Test.YtkgpkbclfncnfaaDoorOwn
namespace Go.Proofs.YtkgpkbclfncnfaaDoor
open Go.RowKit
set_option linter.unusedVariables false

def okP (b6 br : Bool) (x : Ty) : Bool := !(b6 && decide (3 < x.kind)) && (br || x.owned)
def okR (b6 br : Bool) (x : Ty) : Bool := br || (if b6 then (x.kind == 1 || x.kind == 2 || x.kind == 3) else x.owned)
mutual
def Ty.standsP : Ty → Bool
  | .mk k _ l => Ty.standsPAll (k == 6) (k == 13 || k == 14) l
def Ty.standsPAll (b6 br : Bool) : List Ty → Bool
  | [] => true
  | t :: l => (t.standsP && okP b6 br t) && Ty.standsPAll b6 br l
end
mutual
def Ty.standsR : Ty → Bool
  | .mk k _ l => Ty.standsRAll (k == 6) (k == 13 || k == 14) l
def Ty.standsRAll (b6 br : Bool) : List Ty → Bool
  | [] => true
  | t :: l => (t.standsR && okR b6 br t) && Ty.standsRAll b6 br l
end
theorem standsPAll_iff (b6 br : Bool) (l : List Ty) : Ty.standsPAll b6 br l = l.all fun x => x.standsP && okP b6 br x := by
  induction l with
  | nil => rfl
  | cons t l ih => simp [Ty.standsPAll, ih]
theorem standsRAll_iff (b6 br : Bool) (l : List Ty) : Ty.standsRAll b6 br l = l.all fun x => x.standsR && okR b6 br x := by
  induction l with
  | nil => rfl
  | cons t l ih => simp [Ty.standsRAll, ih]
theorem standsP_eq (t : Ty) : t.standsP = t.args.all fun x => x.standsP && okP (t.kind == 6) (t.kind == 13 || t.kind == 14) x := by
  cases t; rw [Ty.standsP, standsPAll_iff]; rfl
theorem standsR_eq (t : Ty) : t.standsR = t.args.all fun x => x.standsR && okR (t.kind == 6) (t.kind == 13 || t.kind == 14) x := by
  cases t; rw [Ty.standsR, standsRAll_iff]; rfl

theorem all_congr {α : Type} {p q : α → Bool} {l : List α} (h : ∀ x ∈ l, p x = q x) : l.all p = l.all q := by
  induction l with
  | nil => rfl
  | cons a l ih => simp only [List.all_cons, h a (by simp), ih fun x hx => h x (by simp [hx])]

/-- the plain law: of a type that is whole both say the same -/
theorem stands_same : ∀ (t : Ty) (d : Int), t.whole d = true → t.standsP = t.standsR := by
  refine Ty.ind fun t ih d h => ?_
  rw [standsP_eq, standsR_eq]
  refine all_congr fun x hx => ?_
  have hne : ¬ t.args.length = 0 := fun h0 => by rw [List.eq_nil_of_length_eq_zero h0] at hx; cases hx
  rw [whole_eq] at h
  simp only [Bool.and_eq_true, decide_eq_true_eq] at h
  obtain ⟨h0, h1, h2, h3⟩ := h
  have hw : x.whole (d - 1) = true := by
    split at h3
    · simp [hne] at h3
    · split at h3
      · simp [hne] at h3
      · simp only [Bool.and_eq_true, decide_eq_true_eq, List.all_eq_true] at h3
        exact h3.2.2 x hx
  have hs := ih x hx _ hw
  rw [hs]
  congr 1
  unfold okP okR
  have hk : 1 ≤ x.kind := by
    rw [whole_eq] at hw
    simp only [Bool.and_eq_true, decide_eq_true_eq] at hw
    exact hw.2.1
  cases hbr : (t.kind == 13 || t.kind == 14) with
  | true =>
    have h6 : (t.kind == 6) = false := by simp at hbr ⊢; omega
    simp [h6]
  | false =>
    cases hb6 : t.kind == 6 with
    | false => simp
    | true =>
      by_cases h3 : 3 < x.kind
      · have : (x.kind == 1 || x.kind == 2 || x.kind == 3) = false := by simp; omega
        simp [h3, this]
      · have h123 : (x.kind == 1 || x.kind == 2 || x.kind == 3) = true := by simp; omega
        have hpl : plainKind x.kind = true := by simp [plainKind] at h123 ⊢; omega
        have hd : 0 < d - 1 := by
          rw [whole_eq] at hw
          simp only [Bool.and_eq_true, decide_eq_true_eq] at hw
          exact hw.1
        rw [whole_plain hd hpl] at hw
        simp only [Bool.and_eq_true, decide_eq_true_eq] at hw
        have ho : x.owned = true := by
          rw [owned_eq, List.eq_nil_of_length_eq_zero hw.2]
          simp at h123 ⊢
          omega
        simp [h3, h123, ho]

-- tables.stands
set_option maxRecDepth 100000 in
set_option maxHeartbeats 2000000 in
theorem standsP_any : ∀ (t : Ty) (S : Nat → Prop) (f : Nat → Value) (w : World), TyIn w S t f →
    Calls Tryd.prog 10 #[.agg #[f 0, f 1, f 2]] w fun e w' => e = .returned (.bool t.standsP) ∧ Below w.heap.size w w' := by
  refine Ty.ind fun t ih S f w h => ?_
  obtain ⟨h0, hk0, hk1, h1, hs, hsl⟩ := TyIn.iff.1 h
  obtain ⟨A, cap, h2, hl, hc, hel⟩ := hsl.open_
  have Hih := Lib.hid ih
  have hv := Lib.hid (standsP_eq t)
  have e6 : (t.kind == 6) = (t.kind == 6) := rfl
  generalize hb6 : (t.kind == 6) = b6 at hv e6
  clear e6
  have e13 : (t.kind != 13) = !(t.kind == 13) := rfl
  have e14 : (t.kind != 14) = !(t.kind == 14) := rfl
  generalize hb13 : (t.kind == 13) = b13 at hv e13
  generalize hb14 : (t.kind == 14) = b14 at hv e14
  rw [h0, h1, h2]
  clear ih h0 h1 h2 hsl h
  go_enter Tryd.func10, Tryd.ntmps10
  go_wp2
  go_loopw [8] (fun i wr => ∃ q : Nat, q ≤ t.args.length ∧ i = .int .i64 q ∧ AllTo (fun x => (x.standsP && okP b6 (b13 || b14) x) = true) t.args q ∧ Below w.heap.size w wr ∧ wr.heap[w.heap.size]? = some (.cells #[.int .u8 t.kind, .string t.name, .slice A t.args.length cap] 24))  (fun i _ => t.args.length - (intOf i).toNat)
  case atStart => exact ⟨0, Nat.zero_le _, rfl, AllTo.zero _ _, (Below.refl _ _).alloc (Nat.le_refl _) _, blk_new _ _⟩
  case round =>
    obtain ⟨q, hq, rfl, hall, hb, hblk⟩ := hrel
    have c0 : wr.cell? ⟨w.heap.size, 0, none⟩ = some (.int .u8 t.kind) := cell_blk hblk 0
    have hz : w.heap.size < wr.heap.size := blk_lt hblk
    have Hblk := Lib.hid hblk
    have Hall := Lib.hid hall
    clear hblk hall
    by_cases hlt : q < t.args.length
    · obtain ⟨b, off, rfl, _, g, hg, hcell⟩ := hel.out wr (Keeps.of_below hb) q hlt
      obtain ⟨hx0, -, -, -, -, -⟩ := TyIn.iff.1 hg
      obtain ⟨kx, hkx⟩ : ∃ kx, t.args[q].kind = kx := ⟨_, rfl⟩
      rw [hkx] at hx0
      have Hkx := Lib.hid hkx
      have hba : Hid (∀ o, Below w.heap.size w (wr.alloc o)) := fun o => hb.alloc (by omega) o
      have Hg := Lib.hid (fun w2 hb2 => hg.mono (Keeps.of_below (hb2 : Below w.heap.size w w2)) (fun _ h => h))
      have d0 : wr.cell? ⟨b, off + q * 3, none⟩ = some (g 0) := (hcell 0 (by omega)).1
      have d1 := (hcell 1 (by omega)).1
      have d2 := (hcell 2 (by omega)).1
      have o0 := fun a w => run_store Tryd.prog w a (g 0) .plain (hg.one 0 (by omega))
      have o1 := fun a w => run_store Tryd.prog w a (g 1) .plain (hg.one 1 (by omega))
      have o2 := fun a w => run_store Tryd.prog w a (g 2) .plain (hg.one 2 (by omega))
      have Hx0 := Lib.hid hx0
      clear hcell hg hx0 hkx
      go_wp2_with fail
      refine (Hih.out _ (List.getElem_mem hlt) S g _ (Hg.out _ (hba.out _))).mono ?_
      rintro e w1 ⟨rfl, hb1⟩
      have hb1w := (hba.out (.cells #[g 0, g 1, g 2] 24)).trans (hb1.mono (by simp; omega))
      have hz1 : wr.heap.size + 1 ≤ w1.heap.size := by have := hb1.size; simpa using this
      have k0 : w1.cell? ⟨w.heap.size, 0, none⟩ = some (.int .u8 t.kind) := by rw [(bcell hb1).1 _ _ (by simp; omega), World.cell?_alloc_lt _ _ _ hz]; exact c0
      have k1 : w1.cell? ⟨wr.heap.size, 0, none⟩ = some (.int .u8 kx) := by rw [(bcell hb1).1 _ _ (by simp), ← Hx0.out]; simp [go_sem]
      have k2 : w1.cell? ⟨wr.heap.size, 1, none⟩ = some (g 1) := by rw [(bcell hb1).1 _ _ (by simp)]; simp [go_sem]
      have k3 : w1.cell? ⟨wr.heap.size, 2, none⟩ = some (g 2) := by rw [(bcell hb1).1 _ _ (by simp)]; simp [go_sem]
      have Hblk1 := Lib.hid (blk_below (blk_alloc Hblk.out (.cells #[g 0, g 1, g 2] 24)) hb1 (by simp; omega))
      have Ho : Hid (Calls Tryd.prog 15 #[.agg #[.int .u8 kx, g 1, g 2]] w1 fun e w' => e = .returned (.bool t.args[q].owned) ∧ Below w1.heap.size w1 w') := by
        have := tablesOwned_any _ _ _ _ (Hg.out _ hb1w)
        rw [Hx0.out] at this
        exact this
      have hsum : Hid (okP b6 (b13 || b14) t.args[q] = (!(b6 && decide (3 < kx)) && (b13 || b14 || t.args[q].owned))) := Lib.hid (by unfold okP; rw [Hkx.out])
      generalize hs1 : t.args[q].standsP = s1 at *
      generalize hs2 : t.args[q].owned = s2 at *
      have Hs1 := Lib.hid hs1
      have Hs2 := Lib.hid hs2
      clear hb1 d0 d1 d2 o0 o1 o2 c0 hs1 hs2
      cases s1 with
      | false =>
        go_wp2
        go_ret
        exact ⟨by rw [hv.out, all_false hlt (by rw [Hs1.out]; rfl)]; rfl, hb1w⟩
      | true =>
        cases b6 with
        | true =>
          by_cases h3 : 3 < kx
          · go_wp2
            go_ret
            exact ⟨by rw [hv.out, all_false hlt (by rw [Hs1.out, hsum.out]; simp [h3])]; rfl, hb1w⟩
          · have h3' : kx ≤ 3 := by omega
            have h3d : decide (3 < kx) = false := by simp; omega
            cases b13 with
            | true =>
              go_wp2
              exact ⟨⟨q + 1, by omega, by go_num, Hall.out.succ hlt (by rw [Hs1.out, hsum.out]; simp [h3d]), hb1w, Hblk1.out⟩, by simp [intOf]; omega⟩
            | false =>
              cases b14 with
              | true =>
                go_wp2
                exact ⟨⟨q + 1, by omega, by go_num, Hall.out.succ hlt (by rw [Hs1.out, hsum.out]; simp [h3d]), hb1w, Hblk1.out⟩, by simp [intOf]; omega⟩
              | false =>
                cases s2 with
                | true =>
                  go_wp2_with (go_at_call 15; refine Ho.out.mono ?_; rintro e w2 ⟨rfl, hb2⟩)
                  exact ⟨⟨q + 1, by omega, by go_num, Hall.out.succ hlt (by rw [Hs1.out, hsum.out]; simp [h3d]), hb1w.trans (hb2.mono (by omega)), blk_below Hblk1.out hb2 (by omega)⟩, by simp [intOf]; omega⟩
                | false =>
                  go_wp2_with (go_at_call 15; refine Ho.out.mono ?_; rintro e w2 ⟨rfl, hb2⟩)
                  go_ret
                  exact ⟨by rw [hv.out, all_false hlt (by rw [Hs1.out, hsum.out]; simp [h3d])]; rfl, hb1w.trans (hb2.mono (by omega))⟩
        | false =>
          cases b13 with
          | true =>
            go_wp2
            exact ⟨⟨q + 1, by omega, by go_num, Hall.out.succ hlt (by rw [Hs1.out, hsum.out]; simp []), hb1w, Hblk1.out⟩, by simp [intOf]; omega⟩
          | false =>
            cases b14 with
            | true =>
              go_wp2
              exact ⟨⟨q + 1, by omega, by go_num, Hall.out.succ hlt (by rw [Hs1.out, hsum.out]; simp []), hb1w, Hblk1.out⟩, by simp [intOf]; omega⟩
            | false =>
              cases s2 with
              | true =>
                go_wp2_with (go_at_call 15; refine Ho.out.mono ?_; rintro e w2 ⟨rfl, hb2⟩)
                exact ⟨⟨q + 1, by omega, by go_num, Hall.out.succ hlt (by rw [Hs1.out, hsum.out]; simp []), hb1w.trans (hb2.mono (by omega)), blk_below Hblk1.out hb2 (by omega)⟩, by simp [intOf]; omega⟩
              | false =>
                go_wp2_with (go_at_call 15; refine Ho.out.mono ?_; rintro e w2 ⟨rfl, hb2⟩)
                go_ret
                exact ⟨by rw [hv.out, all_false hlt (by rw [Hs1.out, hsum.out]; simp [])]; rfl, hb1w.trans (hb2.mono (by omega))⟩
    · go_wp2
      go_ret
      exact ⟨by rw [hv.out, Hall.out.all (by omega)]; rfl, hb⟩
end Go.Proofs.YtkgpkbclfncnfaaDoor
