/- Whether two types are the same: the reference's function and the program's own. -/
import Derived.Test.YtkgpkbclfncnfaaRows
import Derived.Test.YtkgpkbclfncnfaaFun
import Derived.StillTailTactics
import Derived.Deep.RegionHeld3
namespace Go.Proofs.Ytkgpkbclfncnfaa
open Go.RowKit
set_option linter.unusedVariables false

mutual
def Ty.same : Ty → Ty → Bool
  | .mk k s l, .mk k' s' l' => k == k' && strEq s s' && Ty.sameAll l l'
def Ty.sameAll : List Ty → List Ty → Bool
  | [], [] => true
  | t :: l, u :: l' => t.same u && Ty.sameAll l l'
  | _, _ => false
end
theorem sameAll_iff : ∀ (l l' : List Ty), Ty.sameAll l l' = eqAll Ty.same l l'
  | [], [] => rfl
  | t :: l, u :: l' => by simp [Ty.sameAll, eqAll, sameAll_iff l l']
  | [], _ :: _ => rfl
  | _ :: _, [] => rfl
theorem same_eq (t u : Ty) : t.same u = (t.kind == u.kind && strEq t.name u.name && eqAll Ty.same t.args u.args) := by
  cases t; cases u; simp [Ty.same, Ty.kind, Ty.name, Ty.args, sameAll_iff]

-- tree.SameType
set_option maxHeartbeats 400000 in
theorem treeSameType_any : ∀ (t u : Ty) (lo lo' : Nat) (f f' : Nat → Value) (w : World), TyIn w lo t f → TyIn w lo' u f' →
    Calls Try.prog 28 #[.agg #[f 0, f 1, f 2], .agg #[f' 0, f' 1, f' 2]] w fun e w' => e = .returned (.bool (t.same u)) ∧ Below w.heap.size w w' := by
  refine Ty.ind fun t ih u lo lo' f f' w h h' => ?_
  obtain ⟨h0, hk0, hk1, h1, hs, hsl⟩ := TyIn.iff.1 h
  obtain ⟨h0', hk0', hk1', h1', hs', hsl'⟩ := TyIn.iff.1 h'
  have Hc : Hid (∀ w1, Below w.heap.size w w1 → Calls Try.prog 42 #[f 2, f' 2, .func (.func 28) #[] #[]] w1 fun e w' => e = .returned (.bool (eqAll Ty.same t.args u.args)) ∧ Below w1.heap.size w1 w') := by
    intro w1 hw1
    have hH := Holds.of_below hw1
    refine equalFunc_Type (TyIn w1 lo) (TyIn w1 lo') Ty.same 28 t.args u.args lo lo' (f 2) (f' 2) w1 (hsl.mono hH (Nat.le_refl _) fun x _ g hg => hg.mono hH (Nat.le_refl _)) (hsl'.mono hH (Nat.le_refl _) fun x _ g hg => hg.mono hH (Nat.le_refl _))
      (fun x g h => h.one) (fun x g h => h.one) #[] Try.call28 ?_
    intro i hi hi' w2 g g' hb hg hg'
    have hH2 := Holds.of_below hb
    exact ih _ (List.getElem_mem hi) _ lo lo' g g' w2 (hg.mono hH2 (Nat.le_refl _)) (hg'.mono hH2 (Nat.le_refl _))
  obtain ⟨A, cap, h2, hl, hc, _⟩ := hsl.open_
  obtain ⟨A', cap', h2', hl', hc', _⟩ := hsl'.open_
  rw [h2, h2'] at Hc
  rw [h0, h1, h2, h0', h1', h2', same_eq]
  clear ih h0 h1 h2 hsl h h0' h1' h2' hsl' h'
  generalize eqAll Ty.same t.args u.args = E at *
  go_enter Try.func28, Try.ntmps28
  go_wp2_with (go_at_call 42; refine (Hc.out _ (((Below.refl _ _).alloc (Nat.le_refl _) _).alloc (by simp) _)).mono ?_; rintro e w1 ⟨rfl, hb⟩)
  all_goals go_ret
  · exact ⟨by simp [strEq, *], (((Below.refl _ _).alloc (Nat.le_refl _) _).alloc (by simp) _).trans (hb.mono (by simp; omega))⟩
  · exact ⟨by simp [strEq, *], (((Below.refl _ _).alloc (Nat.le_refl _) _).alloc (by simp) _)⟩
  · exact ⟨by simp [strEq, *], (((Below.refl _ _).alloc (Nat.le_refl _) _).alloc (by simp) _)⟩

theorem same_no {t u : Ty} (h : ¬ (t.kind = u.kind ∧ t.name.toList = u.name.toList ∧ t.args.length = u.args.length)) : t.same u = false := by
  rw [same_eq]
  by_cases h1 : t.kind = u.kind
  · by_cases h2 : t.name.toList = u.name.toList
    · rw [eqAll_len (fun h3 => h ⟨h1, h2, h3⟩)]; simp
    · rw [strEq_no.2 h2]; simp
  · rw [show (t.kind == u.kind) = false by simpa using h1]; simp
theorem same_if {t u : Ty} (h1 : t.kind = u.kind) (h2 : t.name.toList = u.name.toList) : t.same u = eqAll Ty.same t.args u.args := by
  rw [same_eq, strEq_iff.2 h2]; simp [h1]

-- weftwayref03.SameType
set_option maxHeartbeats 400000 in
theorem refSameType_any : ∀ (t u : Ty) (lo lo' : Nat) (f f' : Nat → Value) (w : World), TyIn w lo t f → TyIn w lo' u f' →
    Calls Try.prog 17 #[.agg #[f 0, f 1, f 2], .agg #[f' 0, f' 1, f' 2]] w fun e w' => e = .returned (.bool (t.same u)) ∧ Below w.heap.size w w' := by
  refine Ty.ind fun t ih u lo lo' f f' w h h' => ?_
  obtain ⟨h0, hk0, hk1, h1, hs, hsl⟩ := TyIn.iff.1 h
  obtain ⟨h0', hk0', hk1', h1', hs', hsl'⟩ := TyIn.iff.1 h'
  obtain ⟨A, cap, h2, hl, hc, hel⟩ := hsl.open_
  obtain ⟨A', cap', h2', hl', hc', hel'⟩ := hsl'.open_
  rw [h0, h1, h2, h0', h1', h2']
  have Hih := Lib.hid ih
  clear ih h0 h1 h2 hsl h h0' h1' h2' hsl' h'
  by_cases hg : t.kind = u.kind ∧ t.name.toList = u.name.toList ∧ t.args.length = u.args.length
  · obtain ⟨g1, g2, g3⟩ := hg
    have e1 : (t.kind != u.kind) = false := by simp [g1]
    have e2 : (t.name.toList == u.name.toList) = true := by simp [g2]
    have e3 : ((t.args.length : Int) != u.args.length) = false := by simp [g3]
    have g4 : t.args.length ≤ u.args.length := by omega
    have G3 := Lib.hid g3
    rw [same_if g1 g2]
    clear g1 g2 g3
    go_enter Try.func17, Try.ntmps17
    go_wp2
    go_loopw [5] (fun i wr => ∃ q : Nat, q ≤ t.args.length ∧ i = .int .i64 q ∧ EqTo Ty.same t.args u.args q ∧ Below w.heap.size w wr ∧ wr.heap[w.heap.size]? = some (.cells #[.int .u8 t.kind, .string t.name, .slice A t.args.length cap] 34)
      ∧ wr.heap[w.heap.size + 1]? = some (.cells #[.int .u8 u.kind, .string u.name, .slice A' u.args.length cap'] 34))  (fun i _ => t.args.length - (intOf i).toNat)
    case atStart => exact ⟨0, Nat.zero_le _, rfl, EqTo.zero _ _ _, ((Below.refl _ _).alloc (Nat.le_refl _) _).alloc (by simp) _, blk_alloc (blk_new _ _) _, by simpa using blk_new (w.alloc _) _⟩
    case round =>
      obtain ⟨q, hq, rfl, hall, hb, hblk, hblk'⟩ := hrel
      have c2 : wr.cell? ⟨w.heap.size, 2, none⟩ = some (.slice A t.args.length cap) := cell_blk hblk 2
      have c2' : wr.cell? ⟨w.heap.size + 1, 2, none⟩ = some (.slice A' u.args.length cap') := cell_blk hblk' 2
      have hz : w.heap.size + 1 < wr.heap.size := blk_lt hblk'
      have Hblk := Lib.hid hblk
      have Hblk' := Lib.hid hblk'
      clear hblk hblk'
      by_cases hlt : q < t.args.length
      · have hlt' : q < u.args.length := by omega
        obtain ⟨b, off, rfl, _, g, hg, hcell⟩ := hel.out wr (Holds.of_below hb) q hlt
        have hg' := hg.mono (Holds.of_below hb.drew) (Nat.le_refl _)
        have d0 : wr.cell? ⟨b, off + q * 3, none⟩ = some (g 0) := (hcell 0 (by omega)).1
        have d1 := (hcell 1 (by omega)).1
        have d2 := (hcell 2 (by omega)).1
        obtain ⟨b', off', rfl, _, k, hk, hcell'⟩ := hel'.out wr (Holds.of_below hb) q hlt'
        have hk' := hk.mono (Holds.of_below hb.drew) (Nat.le_refl _)
        have d0' : wr.cell? ⟨b', off' + q * 3, none⟩ = some (k 0) := (hcell' 0 (by omega)).1
        have d1' := (hcell' 1 (by omega)).1
        have d2' := (hcell' 2 (by omega)).1
        clear hcell hcell'
        go_wp2_with fail
        clear e1 e2 e3
        go_region_held3 (fun w' => w'.cell? ⟨w.heap.size, 2, none⟩ = some (.slice (some ⟨b, off, none⟩) t.args.length cap) ∧ w'.cell? ⟨w.heap.size + 1, 2, none⟩ = some (.slice (some ⟨b', off', none⟩) u.args.length cap') ∧ w'.cell? ⟨b, off + q * 3, none⟩ = some (g 0) ∧ w'.cell? ⟨b, off + q * 3 + 1, none⟩ = some (g 1) ∧ w'.cell? ⟨b, off + q * 3 + 2, none⟩ = some (g 2)
            ∧ w'.cell? ⟨b', off' + q * 3, none⟩ = some (k 0) ∧ w'.cell? ⟨b', off' + q * 3 + 1, none⟩ = some (k 1) ∧ w'.cell? ⟨b', off' + q * 3 + 2, none⟩ = some (k 2)) (first | exact ⟨c2, c2', d0, d1, d2, d0', d1', d2'⟩ | exact ⟨keepc hb1 c2, keepc hb1 c2', keepc hb1 d0, keepc hb1 d1, keepc hb1 d2, keepc hb1 d0', keepc hb1 d1', keepc hb1 d2'⟩)
          (first | (go_at_call 17; refine (Hih.out _ (List.getElem_mem hlt) _ _ _ _ _ _ hg' hk').mono ?_; rintro e w1 ⟨rfl, hb1⟩))
        have hb2 : Below wr.heap.size wr w1 := undrew hb1
        go_wp2
        · have hn := ‹(!t.args[q].same u.args[q]) = true›
          go_ret
          exact ⟨by rw [eqAll_no hlt hlt' (by simpa using hn)]; rfl, hb.trans (hb2.mono (by omega))⟩
        · have hn := ‹(!t.args[q].same u.args[q]) = false›
          exact ⟨⟨q + 1, by omega, by go_num, hall.succ hlt hlt' (by simpa using hn), hb.trans (hb2.mono (by omega)), blk_below Hblk.out hb2 (by omega), blk_below Hblk'.out hb2 (by omega)⟩, by simp [intOf]; omega⟩
      · go_wp2
        go_ret
        exact ⟨by rw [hall.all G3.out (by omega)]; rfl, hb⟩
  · rw [same_no hg]
    clear Hih hel hel'
    by_cases g1 : t.kind = u.kind
    · by_cases g2 : t.name.toList = u.name.toList
      · have g3 : ¬ t.args.length = u.args.length := fun g3 => hg ⟨g1, g2, g3⟩
        have e1 : (t.kind != u.kind) = false := by simp [g1]
        have e2 : (t.name.toList == u.name.toList) = true := by simp [g2]
        have e3 : ((t.args.length : Int) != u.args.length) = true := by simp; omega
        clear g1 g2 g3 hg
        go_enter Try.func17, Try.ntmps17
        go_wp2
        go_ret
        exact ⟨rfl, (((Below.refl _ _).alloc (Nat.le_refl _) _).alloc (by simp) _)⟩
      · have e1 : (t.kind != u.kind) = false := by simp [g1]
        have e2 : (t.name.toList == u.name.toList) = false := by simp [g2]
        clear g1 g2 hg
        go_enter Try.func17, Try.ntmps17
        go_wp2
        go_ret
        exact ⟨rfl, (((Below.refl _ _).alloc (Nat.le_refl _) _).alloc (by simp) _)⟩
    · have e1 : (t.kind != u.kind) = true := by simp [g1]
      clear g1 hg
      go_enter Try.func17, Try.ntmps17
      go_wp2
      go_ret
      exact ⟨rfl, (((Below.refl _ _).alloc (Nat.le_refl _) _).alloc (by simp) _)⟩
end Go.Proofs.Ytkgpkbclfncnfaa
