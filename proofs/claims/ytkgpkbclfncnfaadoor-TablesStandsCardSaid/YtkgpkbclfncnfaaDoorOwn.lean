/- Whether a type is owned: the reference's function and the program's own. -/
import Derived.Test.YtkgpkbclfncnfaaDoorRows
import Derived.Test.YtkgpkbclfncnfaaDoorFun
namespace Go.Proofs.YtkgpkbclfncnfaaDoor
open Go.RowKit
set_option linter.unusedVariables false

mutual
def Ty.owned : Ty → Bool
  | .mk k _ l => !(k == 13) && !(k == 14) && Ty.ownedAll l
def Ty.ownedAll : List Ty → Bool
  | [] => true
  | t :: l => t.owned && Ty.ownedAll l
end
theorem ownedAll_iff (l : List Ty) : Ty.ownedAll l = l.all Ty.owned := by
  induction l with
  | nil => rfl
  | cons t l ih => simp [Ty.ownedAll, ih]
theorem owned_eq (t : Ty) : t.owned = (!(t.kind == 13) && !(t.kind == 14) && t.args.all Ty.owned) := by
  cases t with | mk k s l => simp [Ty.owned, Ty.kind, Ty.args, ownedAll_iff]
theorem owned_13 {t : Ty} (h : t.kind = 13) : t.owned = false := by rw [owned_eq, h]; rfl
theorem owned_14 {t : Ty} (h : t.kind = 14) : t.owned = false := by rw [owned_eq, h]; rfl
theorem owned_else {t : Ty} (h : (t.kind == 13) = false) (h' : (t.kind == 14) = false) : t.owned = t.args.all Ty.owned := by rw [owned_eq, h, h']; rfl
theorem owned_no {t : Ty} {i : Nat} (hi : i < t.args.length) (h : t.args[i].owned = false) : t.owned = false := by rw [owned_eq, all_false hi h]; simp

-- weftwayref07.Owned
set_option maxHeartbeats 400000 in
theorem refOwned_any : ∀ (t : Ty) (S : Nat → Prop) (f : Nat → Value) (w : World), TyIn w S t f →
    Calls Tryd.prog 12 #[.agg #[f 0, f 1, f 2]] w fun e w' => e = .returned (.bool t.owned) ∧ Below w.heap.size w w' := by
  refine Ty.ind fun t ih S f w h => ?_
  obtain ⟨h0, hk0, hk1, h1, hs, hsl⟩ := TyIn.iff.1 h
  obtain ⟨A, cap, h2, hl, hc, hel⟩ := hsl.open_
  rw [h0, h1, h2]
  by_cases k13 : t.kind = 13
  · have e13 : (t.kind == 13) = true := by simpa using k13
    rw [owned_13 k13]
    clear k13 ih
    go_enter Tryd.func12, Tryd.ntmps12
    go_wp2
    go_ret
    exact ⟨rfl, (Below.refl _ _).alloc (Nat.le_refl _) _⟩
  have e13 : (t.kind == 13) = false := by simpa using k13
  by_cases k14 : t.kind = 14
  · have e14 : (t.kind == 14) = true := by simpa using k14
    rw [owned_14 k14]
    clear k13 k14 ih
    go_enter Tryd.func12, Tryd.ntmps12
    go_wp2
    go_ret
    exact ⟨rfl, (Below.refl _ _).alloc (Nat.le_refl _) _⟩
  have e14 : (t.kind == 14) = false := by simpa using k14
  have Hih := Lib.hid ih
  clear ih h0 h1 h2 k13 k14
  go_enter Tryd.func12, Tryd.ntmps12
  go_wp2
  go_loopw [3] (fun i wr => ∃ q : Nat, q ≤ t.args.length ∧ i = .int .i64 q ∧ AllTo (fun x => x.owned = true) t.args q ∧ Below w.heap.size w wr ∧ wr.heap[w.heap.size]? = some (.cells #[.int .u8 t.kind, .string t.name, .slice A t.args.length cap] 24))  (fun i _ => t.args.length - (intOf i).toNat)
  case atStart => exact ⟨0, Nat.zero_le _, rfl, AllTo.zero _ _, (Below.refl _ _).alloc (Nat.le_refl _) _, blk_new _ _⟩
  case round =>
    obtain ⟨q, hq, rfl, hall, hb, hblk⟩ := hrel
    have c2 : wr.cell? ⟨w.heap.size, 2, none⟩ = some (.slice A t.args.length cap) := cell_blk hblk 2
    have hz : w.heap.size < wr.heap.size := blk_lt hblk
    have Hblk := Lib.hid hblk
    clear hblk
    by_cases hlt : q < t.args.length
    · obtain ⟨b, off, rfl, _, g, hg, hcell⟩ := hel.out wr (Keeps.of_below hb) q hlt
      have hg' := hg.mono (Keeps.of_below hb) (fun _ h => h)
      have d0 : wr.cell? ⟨b, off + q * 3, none⟩ = some (g 0) := (hcell 0 (by omega)).1
      have d1 := (hcell 1 (by omega)).1
      have d2 := (hcell 2 (by omega)).1
      clear hcell
      go_wp2_with (go_at_call 12; refine (Hih.out _ (List.getElem_mem hlt) _ _ _ hg').mono ?_; rintro e w1 ⟨rfl, hb1⟩)
      · have hn := ‹(!t.args[q].owned) = true›
        go_ret
        exact ⟨by rw [owned_no hlt (by simpa using hn)]; rfl, hb.trans (hb1.mono (by omega))⟩
      · have hn := ‹(!t.args[q].owned) = false›
        exact ⟨⟨q + 1, by omega, by go_num, hall.succ hlt (by simpa using hn), hb.trans (hb1.mono (by omega)), blk_below Hblk.out hb1 hz⟩, by simp [intOf]; omega⟩
    · go_wp2
      go_ret
      exact ⟨by rw [owned_else e13 e14, hall.all (by omega)]; rfl, hb⟩

theorem any_owned (l : List Ty) : l.any (fun x => !x.owned) = !l.all Ty.owned := by
  induction l with
  | nil => rfl
  | cons t l ih => simp [ih]

def Ty.copied (t : Ty) : Bool := t.kind == 1 || t.kind == 2 || t.kind == 3 || t.kind == 13
-- tables.owned, and the function literal in it
set_option maxHeartbeats 400000 in
theorem tablesOwned_any : ∀ (t : Ty) (S : Nat → Prop) (f : Nat → Value) (w : World), TyIn w S t f →
    Calls Tryd.prog 15 #[.agg #[f 0, f 1, f 2]] w fun e w' => e = .returned (.bool t.owned) ∧ Below w.heap.size w w' := by
  refine Ty.ind fun t ih S f w h => ?_
  obtain ⟨h0, hk0, hk1, h1, hs, hsl⟩ := TyIn.iff.1 h
  have Hc : Hid (∀ w1, Below w.heap.size w w1 → Calls Tryd.prog 20 #[f 2, .func (.func 21) #[] #[]] w1 fun e w' => e = .returned (.bool (t.args.any fun x => !x.owned)) ∧ Below w1.heap.size w1 w') := by
    intro w1 hw1
    refine containsFunc_Type (TyIn w1 S) (fun x => !x.owned) 21 t.args S (f 2) w1 (hsl.mono (Keeps.of_below hw1) (fun _ h => h) fun x _ g hg => hg.mono (Keeps.of_below hw1) (fun _ h => h)) #[] Tryd.call21 ?_
    intro i hi w2 g hb hg
    have Hi := Lib.hid (ih _ (List.getElem_mem hi) S g)
    have hw2 := Lib.hid (fun w3 h => hg.mono (Keeps.of_below (h : Below w1.heap.size w1 w3)) (fun _ h => h))
    have o0 := fun a w => run_store Tryd.prog w a (g 0) .plain (hg.one 0 (by omega))
    have o1 := fun a w => run_store Tryd.prog w a (g 1) .plain (hg.one 1 (by omega))
    have o2 := fun a w => run_store Tryd.prog w a (g 2) .plain (hg.one 2 (by omega))
    clear hg hsl h0 h1 ih
    simp only [Array.append_empty]
    go_enter Tryd.func21, Tryd.ntmps21
    go_wp2_with (go_at_call 15; refine (Hi.out _ (hw2.out _ (hb.alloc hb.size _))).mono ?_; rintro e w3 ⟨rfl, hb3⟩)
    go_ret
    exact ⟨rfl, ((Below.refl _ _).alloc (Nat.le_refl _) _).trans (hb3.mono (by simp))⟩
  obtain ⟨A, cap, h2, hl, hc, _⟩ := hsl.open_
  rw [h2] at Hc
  rw [h0, h1, h2]
  clear ih h0 h1 h2 hsl h
  by_cases k13 : t.kind = 13
  · have hv := Lib.hid (owned_13 k13)
    have e13 : (t.kind == 13) = true := by simpa using k13
    have n13 : (t.kind != 13) = false := by simp [k13]
    clear k13
    go_enter Tryd.func15, Tryd.ntmps15
    go_wp2
    go_ret
    exact ⟨by rw [hv.out]; rfl, (Below.refl _ _).alloc (Nat.le_refl _) _⟩
  have e13 : (t.kind == 13) = false := by simpa using k13
  have n13 : (t.kind != 13) = true := by simp [k13]
  by_cases k14 : t.kind = 14
  · have hv := Lib.hid (owned_14 k14)
    have e14 : (t.kind == 14) = true := by simpa using k14
    have n14 : (t.kind != 14) = false := by simp [k14]
    clear k13 k14
    go_enter Tryd.func15, Tryd.ntmps15
    go_wp2
    go_ret
    exact ⟨by rw [hv.out]; rfl, (Below.refl _ _).alloc (Nat.le_refl _) _⟩
  have e14 : (t.kind == 14) = false := by simpa using k14
  have n14 : (t.kind != 14) = true := by simp [k14]
  clear k13 k14
  go_enter Tryd.func15, Tryd.ntmps15
  go_wp2_with (go_at_call 20; refine (Hc.out _ ((Below.refl _ _).alloc (Nat.le_refl _) _)).mono ?_; rintro e w1 ⟨rfl, hb⟩)
  go_ret
  exact ⟨by rw [owned_else e13 e14, any_owned]; simp, ((Below.refl _ _).alloc (Nat.le_refl _) _).trans (hb.mono (by simp))⟩
end Go.Proofs.YtkgpkbclfncnfaaDoor
