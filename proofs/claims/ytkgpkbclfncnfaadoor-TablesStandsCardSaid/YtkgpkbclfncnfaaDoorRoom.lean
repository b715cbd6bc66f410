/- How much room a type takes (weftwaylaw03.Room): the bound of the statements. -/
import Derived.Test.YtkgpkbclfncnfaaDoorRows
import Derived.Test.YtkgpkbclfncnfaaDoorFun
import Derived.Handy
namespace Go.Proofs.YtkgpkbclfncnfaaDoor
open Go.RowKit
set_option linter.unusedVariables false

/-- w' is w with new blocks; of the old ones none but block r has turned. -/
structure But (r : Nat) (w w' : World) : Prop where
  os : w'.os = w.os
  tape : w'.tape = w.tape
  output : w'.output = w.output
  size : w.heap.size ≤ w'.heap.size
  block : ∀ k, k < w.heap.size → k ≠ r → w'.heap[k]? = w.heap[k]?
theorem But.refl (r : Nat) (w : World) : But r w w := ⟨rfl, rfl, rfl, Nat.le_refl _, fun _ _ _ => rfl⟩
theorem But.trans {r : Nat} {a b c : World} (h : But r a b) (k : But r b c) : But r a c :=
  ⟨k.os.trans h.os, k.tape.trans h.tape, k.output.trans h.output, Nat.le_trans h.size k.size, fun i hi hr => (k.block i (Nat.lt_of_lt_of_le hi h.size) hr).trans (h.block i hi hr)⟩
theorem But.drew {r : Nat} {a w : World} (h : But r a w) : But r a w.drew := ⟨h.os, h.tape, h.output, h.size, h.block⟩
theorem But.of_below {r : Nat} {w w' : World} (h : Below w.heap.size w w') : But r w w' := ⟨h.os, h.tape, h.output, h.size, fun k hk _ => h.block k hk⟩
theorem But.alloc {r : Nat} {a w : World} (h : But r a w) (o : Obj) : But r a (w.alloc o) := h.trans (But.of_below ((Below.refl _ _).alloc (Nat.le_refl _) o))
theorem But.setCell {r : Nat} {a w : World} (h : But r a w) (p : Addr) (hp : p.block = r) (u : Value) : But r a (w.setCell p u) :=
  h.trans ⟨rfl, rfl, rfl, by simp [World.setCell], fun k hk hr => Below.heap_setCell _ _ _ _ (by omega)⟩
theorem But.set {r : Nat} {a w : World} (h : But r a w) (i : Nat) (u : Value) : But r a (w.setCell ⟨r, i, none⟩ u) := h.setCell _ rfl u
theorem But.below {r : Nat} {w0 w w' : World} (h : But r w w') (hb : Below w0.heap.size w0 w) (hr : w0.heap.size ≤ r) : Below w0.heap.size w0 w' :=
  hb.trans ⟨h.os, h.tape, h.output, h.size, fun k hk => h.block k (Nat.lt_of_lt_of_le hk hb.size) (by omega)⟩
theorem But.blk {r g : Nat} {w w' : World} {o : Obj} (h : But r w w') (hg : w.heap[g]? = some o) (hne : g ≠ r) : w'.heap[g]? = some o := (h.block g (blk_lt hg) hne).trans hg

/-- the room as it lies in memory -/
def RoomAt (w : World) (r : Nat) (n : Int) : Prop := w.heap[r]? = some (.cells #[.int .i64 n] 29 (0, 0)) ∧ -10 ≤ n ∧ n ≤ 100000

def nameRoom (k : Nat) (n : Int) : Int := if n < 5 then -1 else if (k : Int) > n - 5 then -1 else n - 5 - k
theorem nameRoom_bd (k : Nat) (n : Int) (h : -10 ≤ n) : -1 ≤ nameRoom k n ∧ nameRoom k n ≤ n + 9 ∧ (0 ≤ n → nameRoom k n ≤ n) := by unfold nameRoom; split <;> (try split) <;> omega
mutual
def Ty.room : Ty → Int → Int
  | .mk _ s l, n => Ty.roomAll l (nameRoom s.size n)
def Ty.roomAll : List Ty → Int → Int
  | [], n => n
  | t :: l, n => if n < 0 then n else Ty.roomAll l (t.room n)
end
theorem room_eq (t : Ty) (n : Int) : t.room n = Ty.roomAll t.args (nameRoom t.name.size n) := by cases t; rfl
theorem roomAll_neg {l : List Ty} {n : Int} (h : n < 0) : Ty.roomAll l n = n := by cases l <;> simp [Ty.roomAll, h]
theorem roomAll_step {l : List Ty} {q : Nat} {n : Int} (hq : q < l.length) (h : 0 ≤ n) : Ty.roomAll (l.drop q) n = Ty.roomAll (l.drop (q + 1)) (l[q].room n) := by
  rw [List.drop_eq_getElem_cons hq, Ty.roomAll, if_neg (by omega)]
theorem roomAll_done {l : List Ty} {q : Nat} {n : Int} (hq : l.length ≤ q) : Ty.roomAll (l.drop q) n = n := by rw [List.drop_eq_nil_of_le hq]; rfl

-- (*Room).name
set_option maxHeartbeats 400000 in
theorem roomName_any (s : ByteArray) (r : Nat) (n : Int) (w : World) (hs : s.size ≤ maxLen) (hr : RoomAt w r n) :
    Calls Tryd.prog 13 #[.pointer (some ⟨r, 0, none⟩), .string s] w fun e w' => e = .returned (.tuple #[]) ∧ RoomAt w' r (nameRoom s.size n) ∧ But r w w' := by
  obtain ⟨hblk, hn1, hn2⟩ := hr
  have c0 : w.cell? ⟨r, 0, none⟩ = some (.int .i64 n) := cell_blk hblk 0
  have z0 := frozen_blk hblk 0
  have Hblk := Lib.hid hblk
  unfold maxLen at hs
  clear hblk
  by_cases h1 : n < 5
  · have hv : nameRoom s.size n = -1 := by simp [nameRoom, h1]
    rw [hv]
    clear hv
    go_enter Tryd.func13, Tryd.ntmps13
    go_wp2
    go_returns
    exact ⟨rfl, ⟨by simpa using blk_set Hblk.out 0 (.int .i64 (-1)), by omega, by omega⟩, (But.refl _ _).set 0 _⟩
  · by_cases h2 : (s.size : Int) > n - 5
    · have hv : nameRoom s.size n = -1 := by simp [nameRoom, h1, h2]
      rw [hv]
      clear hv
      go_enter Tryd.func13, Tryd.ntmps13
      go_wp2
      go_returns
      exact ⟨rfl, ⟨by simpa using blk_set Hblk.out 0 (.int .i64 (-1)), by omega, by omega⟩, (But.refl _ _).set 0 _⟩
    · have hv : nameRoom s.size n = n - 5 - s.size := by simp [nameRoom, h1, h2]
      rw [hv]
      clear hv
      go_enter Tryd.func13, Tryd.ntmps13
      go_wp2
      go_returns
      exact ⟨rfl, ⟨by simpa using blk_set Hblk.out 0 (.int .i64 (n - 5 - s.size)), by omega, by omega⟩, (But.refl _ _).set 0 _⟩

-- (*Room).Type
set_option maxHeartbeats 400000 in
theorem roomType_any : ∀ (t : Ty) (S : Nat → Prop) (f : Nat → Value) (w0 w : World) (r : Nat) (n : Int), TyIn w0 S t f → Below w0.heap.size w0 w → w0.heap.size ≤ r → RoomAt w r n →
    Calls Tryd.prog 8 #[.pointer (some ⟨r, 0, none⟩), .agg #[f 0, f 1, f 2]] w fun e w' => e = .returned (.tuple #[]) ∧ RoomAt w' r (t.room n) ∧ But r w w' := by
  refine Ty.ind fun t ih S f w0 w r n h hb0 hr hroom => ?_
  obtain ⟨h0, hk0, hk1, h1, hs, hsl⟩ := TyIn.iff.1 h
  obtain ⟨A, cap, h2, hl, hc, hel⟩ := hsl.open_
  rw [h0, h1, h2, room_eq]
  have Hih := Lib.hid ih
  have hrl := blk_lt hroom.1
  have nbd := nameRoom_bd t.name.size n hroom.2.1
  have nb2 := hroom.2.2
  generalize hm0 : nameRoom t.name.size n = m0 at *
  clear ih h0 h1 h2 hsl h
  have Hroom := Lib.hid hroom
  have Hm0 := Lib.hid hm0
  clear hroom hm0
  have hrne : ¬ r = w.heap.size := by omega
  go_enter Tryd.func8, Tryd.ntmps8
  go_wp2_with (go_at_call 13; refine (roomName_any t.name r n _ hs ⟨blk_alloc Hroom.out.1 _, Hroom.out.2⟩).mono ?_; rintro e w1 ⟨rfl, hroom1, hbut1⟩)
  rw [Hm0.out] at hroom1
  have hblk1 : w1.heap[w.heap.size]? = some (.cells #[.int .u8 t.kind, .string t.name, .slice A t.args.length cap] 24) := hbut1.blk (blk_new _ _) (by omega)
  go_loopw [4] (fun i wr => ∃ q : Nat, ∃ m : Int, q ≤ t.args.length ∧ i = .int .i64 q ∧ RoomAt wr r m ∧ Ty.roomAll (t.args.drop q) m = Ty.roomAll t.args m0 ∧ But r w wr ∧ wr.heap[w.heap.size]? = some (.cells #[.int .u8 t.kind, .string t.name, .slice A t.args.length cap] 24))  (fun i _ => t.args.length - (intOf i).toNat)
  case atStart => exact ⟨0, m0, Nat.zero_le _, rfl, hroom1, rfl, ((But.refl _ _).alloc _).trans hbut1, hblk1⟩
  case round =>
    clear hbut1 hroom1 hblk1
    obtain ⟨q, m, hq, rfl, ⟨hrm, hm1, hm2⟩, heq, hb, hblk⟩ := hrel
    have c2 : wr.cell? ⟨w.heap.size, 2, none⟩ = some (.slice A t.args.length cap) := cell_blk hblk 2
    have cr : wr.cell? ⟨r, 0, none⟩ = some (.int .i64 m) := cell_blk hrm 0
    have hz : w.heap.size < wr.heap.size := blk_lt hblk
    have Hblk := Lib.hid hblk
    have Hrm := Lib.hid hrm
    have Heq := Lib.hid heq
    clear hblk hrm heq
    by_cases hlt : q < t.args.length
    · by_cases hm : m < 0
      · have hm' : ¬ 0 ≤ m := by omega
        go_wp2
        go_returns
        exact ⟨rfl, ⟨by rw [← Heq.out, roomAll_neg hm]; exact Hrm.out, by rw [← Heq.out, roomAll_neg hm]; omega, by rw [← Heq.out, roomAll_neg hm]; omega⟩, hb⟩
      · have hm' : 0 ≤ m := by omega
        have hbl := hb.below hb0 hr
        obtain ⟨b, off, rfl, _, g, hg, hcell⟩ := hel.out wr (Keeps.of_below hbl) q hlt
        have d0 : wr.cell? ⟨b, off + q * 3, none⟩ = some (g 0) := (hcell 0 (by omega)).1
        have d1 := (hcell 1 (by omega)).1
        have d2 := (hcell 2 (by omega)).1
        clear hcell
        go_wp2_with (go_at_call 8; refine (Hih.out _ (List.getElem_mem hlt) S g w0 wr r m hg hbl hr ⟨Hrm.out, hm1, hm2⟩).mono ?_; rintro e w1 ⟨rfl, hroom1, hbut1⟩)
        exact ⟨⟨q + 1, t.args[q].room m, by omega, by go_num, hroom1, by rw [← roomAll_step hlt hm']; exact Heq.out, hb.trans hbut1, hbut1.blk Hblk.out (by omega)⟩, by simp [intOf]; omega⟩
    · go_wp2
      go_returns
      exact ⟨rfl, ⟨by rw [← Heq.out, roomAll_done (by omega)]; exact Hrm.out, by rw [← Heq.out, roomAll_done (by omega)]; omega, by rw [← Heq.out, roomAll_done (by omega)]; omega⟩, hb⟩

def Ty.great (t : Ty) : Bool := decide (t.room 20000 < 0)
-- GreatType
set_option maxHeartbeats 400000 in
theorem greatType_any (t : Ty) (S : Nat → Prop) (f : Nat → Value) (w : World) (h : TyIn w S t f) :
    Calls Tryd.prog 4 #[.agg #[f 0, f 1, f 2]] w fun e w' => e = .returned (.bool t.great) ∧ Below w.heap.size w w' := by
  have s0 := fun a w => run_store Tryd.prog w a (f 0) .plain (h.one 0 (by omega))
  have s1 := fun a w => run_store Tryd.prog w a (f 1) .plain (h.one 1 (by omega))
  have s2 := fun a w => run_store Tryd.prog w a (f 2) .plain (h.one 2 (by omega))
  go_enter Tryd.func4, Tryd.ntmps4
  go_wp2_with (go_at_call 8; refine (roomType_any t S f w _ (w.heap.size + 1) 20000 h (((Below.refl _ _).alloc (Nat.le_refl _) _).alloc (by simp) _) (by omega) ⟨by simpa using blk_new (w.alloc _) _, by omega, by omega⟩).mono ?_; rintro e w1 ⟨rfl, hroom1, hbut1⟩; have cr : w1.cell? ⟨w.heap.size + 1, 0, none⟩ = some (.int .i64 (t.room 20000)) := cell_blk hroom1.1 0)
  go_ret
  exact ⟨rfl, hbut1.below (((Below.refl _ _).alloc (Nat.le_refl _) _).alloc (by simp) _) (by omega)⟩
end Go.Proofs.YtkgpkbclfncnfaaDoor
