/- A whole program, one that is not great, stays so where places change. No statement is proved here. -/
import Derived.Test.YtlnoacoanfhdcaaGreatDoorMCp
import Derived.Test.YtlnoacoanfhdcaaGreatDoorMWp
import Derived.Test.YtlnoacoanfhdcaaGreatDoorMRoom
namespace Go.Proofs.YtlnoacoanfhdcaaGreatDoor
open Go.RowKit
set_option linter.unusedVariables false
set_option linter.unusedSimpArgs false
theorem all_map_congr {α β : Type} (f : α → β) {q : β → Bool} {r : α → Bool} : ∀ (l : List α), (∀ x ∈ l, q (f x) = r x) → (l.map f).all q = l.all r
  | [], h => rfl
  | x :: l, h => by
    rw [List.map_cons, List.all_cons, List.all_cons, h x (by simp), all_map_congr f l fun y hy => h y (List.mem_cons_of_mem _ hy)]
theorem allUp_map {α β : Type} (f : α → β) {q : β → Bool} {r : α → Bool} (l : List α) (m : Int) (h : ∀ x ∈ l, q (f x) = r x) : allUp q (l.map f) m = allUp r l m := by
  unfold allUp
  rw [List.length_map, ← List.map_take, all_map_congr f (l.take m.toNat) fun x hx => h x (List.mem_of_mem_take hx)]
section
variable (g : Int → Int)
theorem exWhole_atm : ∀ (e : Ex) (d : Int), (e.atm g).whole d = e.whole d := by
  refine Ex.ind fun e ih d => ?_
  rw [exWhole_eq, exWhole_eq e, exAtm]
  simp only [Ex.op, Ex.int, Ex.name, Ex.second, Ex.place, Ex.args, List.length_map]
  obtain ⟨op, int, name, second, pl, args, pos⟩ := e
  simp only [Ex.op, Ex.int, Ex.name, Ex.second, Ex.place, Ex.args] at *
  rw [allUp_map (Ex.atm g) (r := fun t => ((op == 18) || !lentOp t.op) && t.whole (d - 1)) args _ fun x hx => by
    rw [ih x hx]
    cases x; rfl]
  rfl
theorem exsB_atm (op : Int) (es : List Ex) (d : Int) : exsB op (es.map (Ex.atm g)) d = exsB op es d := by
  unfold exsB
  exact allUp_map (Ex.atm g) es _ fun x hx => by rw [exWhole_atm]; cases x; rfl
theorem stHead_atm (op int : Int) (nm sc : ByteArray) (names : List ByteArray) (ty : Ty) (pl : Pl) (es : List Ex) (d : Int) : stHead op int nm sc names ty pl (es.map (Ex.atm g)) d = stHead op int nm sc names ty pl es d := by
  unfold stHead
  rw [List.length_map]
theorem stWhole_atm : ∀ (s : St) (d : Int), (s.atm g).whole d = s.whole d := by
  refine St.ind fun s i1 i2 i3 d => ?_
  rw [stWhole_eq, stWhole_eq s, stAtm]
  obtain ⟨op, name, second, names, ty, int, pl, es, b, el, ar, pos⟩ := s
  simp only [St.op, St.name, St.second, St.names, St.type, St.int, St.place, St.exprs, St.body, St.els, St.arms, St.pos, List.length_map] at *
  rw [stHead_atm, exsB_atm, all_map_congr (St.atm g) (r := fun t => t.whole (d - 1)) b fun x hx => i1 x hx _, all_map_congr (St.atm g) (r := fun t => t.whole (d - 1)) el fun x hx => i2 x hx _,
    allUp_map (Ar.atm g) (r := fun a => a.whole (d - 1)) ar _ fun a ha => by
      unfold Ar.whole Ar.atm
      simp only
      rw [all_map_congr (St.atm g) (r := fun t => t.whole (d - 1)) a.body fun x hx => i3 a ha x hx _]]
  rfl
theorem itWhole_atm (x : It) (d : Int) : (x.atm g).whole d = x.whole d := by
  have hz : zeroExB (x.ret.atm g) = zeroExB x.ret := by
    rw [exAtm]; unfold zeroExB; simp only [Ex.op, Ex.int, Ex.name, Ex.second, Ex.place, Ex.args, List.length_map]
    cases x.ret; rfl
  have ho : (x.ret.atm g).op = x.ret.op := by cases x.ret; rfl
  unfold It.whole It.atm
  simp only [List.length_map]
  rw [hz, ho, exWhole_atm, all_map_congr (St.atm g) (r := fun s => s.whole (d - 1)) x.body fun y _ => stWhole_atm g y _]
theorem prWhole_atm (p : List It) : prWhole (p.map (It.atm g)) = prWhole p := by
  unfold prWhole
  exact allUp_map (It.atm g) p _ fun x _ => itWhole_atm g x _
end
/-! ### How great it is stays -/
theorem roomFold_map {α β : Type} (f : α → β) {q : β → Int → Int} {r : α → Int → Int} : ∀ (l : List α), (∀ x ∈ l, ∀ n, q (f x) n = r x n) → ∀ n, roomFold q (l.map f) n = roomFold r l n
  | [], h, n => rfl
  | x :: l, h, n => by
    rw [List.map_cons, roomFold, roomFold, h x (by simp)]
    rw [roomFold_map f l (fun y hy => h y (List.mem_cons_of_mem _ hy))]
theorem exRoom_atm (g : Int → Int) : ∀ (e : Ex) (n : Int), (e.atm g).room n = e.room n := by
  refine Ex.ind fun e ih n => ?_
  rw [exRoom_eq, exRoom_eq e, exAtm]
  simp only [Ex.name, Ex.second, Ex.place, Ex.args]
  obtain ⟨op, int, name, second, pl, args, pos⟩ := e
  exact roomFold_map (Ex.atm g) args (fun x hx => ih x hx) _
theorem stRoom_atm (g : Int → Int) : ∀ (s : St) (n : Int), (s.atm g).room n = s.room n := by
  refine St.ind fun s i1 i2 i3 n => ?_
  rw [stRoom_eq, stRoom_eq s, stAtm]
  obtain ⟨op, name, second, names, ty, int, pl, es, b, el, ar, pos⟩ := s
  simp only [St.room1, St.op, St.name, St.second, St.names, St.type, St.int, St.place, St.exprs, St.body, St.els, St.arms, St.pos] at *
  have h1 : ∀ n, roomFold Ex.room (es.map (Ex.atm g)) n = roomFold Ex.room es n := roomFold_map (Ex.atm g) es fun x _ => exRoom_atm g x
  have h2 : ∀ n, roomFold St.room (b.map (St.atm g)) n = roomFold St.room b n := roomFold_map (St.atm g) b fun x hx => i1 x hx
  have h3 : ∀ n, roomFold St.room (el.map (St.atm g)) n = roomFold St.room el n := roomFold_map (St.atm g) el fun x hx => i2 x hx
  have h4 : ∀ n, roomFold Ar.room (ar.map (Ar.atm g)) n = roomFold Ar.room ar n := roomFold_map (Ar.atm g) ar fun a ha m => by
    rw [arRoom_eq, arRoom_eq a]
    exact roomFold_map (St.atm g) a.body (fun x hx => i3 a ha x hx) _
  simp only [h1, h2, h3, h4]
  rfl
theorem great_atm (g : Int → Int) (p : List It) : great (p.map (It.atm g)) = great p := by
  unfold great
  rw [roomFold_map (It.atm g) (r := It.room) p fun x _ n => by
    unfold It.room
    show (x.ret.atm g).room (roomFold St.room (x.body.map (St.atm g)) _) = _
    rw [exRoom_atm, roomFold_map (St.atm g) (r := St.room) x.body fun y _ => stRoom_atm g y]
    rfl]
theorem exRg_atm (g : Int → Int) : ∀ e : Ex, ExRg e → ExRg (e.atm g) := by
  refine Ex.ind fun e ih h => ?_
  obtain ⟨h1, h2⟩ := (exRg_iff e).1 h
  rw [exAtm, exRg_iff]
  refine ⟨h1, fun x hx => ?_⟩
  obtain ⟨y, hy, rfl⟩ := List.mem_map.1 hx
  exact ih y hy (h2 y hy)
theorem stRg_atm (g : Int → Int) : ∀ s : St, StRg s → StRg (s.atm g) := by
  refine St.ind fun s i1 i2 i3 h => ?_
  obtain ⟨h1, h2, h3, h4, h5⟩ := (stRg_iff s).1 h
  rw [stAtm, stRg_iff]
  refine ⟨h1, fun x hx => ?_, fun x hx => ?_, fun x hx => ?_, fun a ha x hx => ?_⟩
  · obtain ⟨y, hy, rfl⟩ := List.mem_map.1 hx
    exact exRg_atm g y (h2 y hy)
  · obtain ⟨y, hy, rfl⟩ := List.mem_map.1 hx
    exact i1 y hy (h3 y hy)
  · obtain ⟨y, hy, rfl⟩ := List.mem_map.1 hx
    exact i2 y hy (h4 y hy)
  · obtain ⟨b, hb, rfl⟩ := List.mem_map.1 ha
    obtain ⟨y, hy, rfl⟩ := List.mem_map.1 hx
    exact i3 b hb y hy (h5 b hb y hy)
theorem itRg_atm (g : Int → Int) {p : List It} (h : ∀ x ∈ p, ItRg x) : ∀ x ∈ p.map (It.atm g), ItRg x := fun x hx => by
  obtain ⟨y, hy, rfl⟩ := List.mem_map.1 hx
  obtain ⟨h1, h2⟩ := h y hy
  refine ⟨exRg_atm g _ h1, fun s hs => ?_⟩
  obtain ⟨t, ht, rfl⟩ := List.mem_map.1 hs
  exact stRg_atm g t (h2 t ht)
end Go.Proofs.YtlnoacoanfhdcaaGreatDoor
