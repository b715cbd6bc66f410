/- 2 texts of this proof, one behind the other: TaP TaF. The statement is proved in the claim's last text. -/
import Derived.Test.YtnblhbpfgdjnkaaGreatDoorTWp
import Derived.Test.YtnblhbpfgdjnkaaGreatDoorTWh
namespace Go.Proofs.YtnblhbpfgdjnkaaGreatDoor
open Go.RowKit
set_option linter.unusedVariables false

mutual
def Ty.owned : Ty → Bool
  | .mk k _ l => (decide (k ≠ 13) && decide (k ≠ 14)) && Ty.owneds l
def Ty.owneds : List Ty → Bool
  | [] => true
  | t :: l => t.owned && Ty.owneds l
end
/-- may a part stand in something of a kind? -/
def partOk (k : Int) (x : Ty) : Bool := (!((k == 6) && decide (3 < x.kind))) && ((k == 13) || ((k == 14) || x.owned))
mutual
def Ty.stands : Ty → Bool
  | .mk k _ l => Ty.standss k l
def Ty.standss (k : Int) : List Ty → Bool
  | [] => true
  | .mk k' s' l' :: l => (Ty.stands (.mk k' s' l') && partOk k (.mk k' s' l')) && Ty.standss k l
end

/-- a fault: its number, its place -/
abbrev Flt := Int × Int
def firstIt (p : List It) (s : ByteArray) : Option It := p.find? fun x => (decide (x.kind ≠ 3)) && sEq x.name s
/-- does a struct, an enum have itself? what has been gone through stays so -/
def foundF (p : List It) (nm : ByteArray) : Nat → List Fi → List ByteArray → Option (Bool × List ByteArray)
  | _, [], gone => some (false, gone)
  | 0, _ :: _, _ => none
  | n + 1, f :: fs, gone =>
    if f.type.kind ≠ 4 then foundF p nm n fs gone
    else if sEq f.type.name nm = true then some (true, gone)
    else if gone.any (fun g => sEq f.type.name g) = true then foundF p nm n fs gone
    else
      match firstIt p f.type.name with
      | none => foundF p nm n fs (gone ++ [f.type.name])
      | some z =>
        match foundF p nm n z.fields (gone ++ [f.type.name]) with
        | none => none
        | some (true, g) => some (true, g)
        | some (false, g) => foundF p nm n fs g
def wrongL (holds : Bool) (e a : Int) : List Flt := if holds = true then [] else [(e, a)]
mutual
def St.tabs : St → List Flt
  | .mk op _ _ _ ty _ _ _ b el ar pos => wrongL ((op != 12) || (ty.stands && ty.owned)) 70 pos ++ (St.tabss b ++ (St.tabss el ++ Ar.tabss ar))
def St.tabss : List St → List Flt
  | [] => []
  | s :: l => s.tabs ++ St.tabss l
def Ar.tabss : List (ArOf St) → List Flt
  | [] => []
  | ⟨_, _, b⟩ :: l => St.tabss b ++ Ar.tabss l
end
def It.tabs (p : List It) (n : Nat) (x : It) : Option (List Flt) :=
  let a := x.fields.flatMap (fun f => wrongL (f.type.stands && ((x.kind == 3) || f.type.owned)) 70 x.pos) ++ (wrongL (x.result.stands && x.result.owned) 70 x.pos ++ St.tabss x.body)
  if x.kind = 3 then some a
  else (foundF p x.name n x.fields []).map fun r => a ++ wrongL (!r.1) 71 x.pos
def itsTabs (p : List It) (n : Nat) : List It → Option (List Flt)
  | [] => some []
  | x :: l => match x.tabs p n, itsTabs p n l with
    | some a, some b => some (a ++ b)
    | _, _ => none
def checkT (p : List It) (n : Nat) : Option (List Flt) := if prWhole p then itsTabs p n p else some [(2, 0)]
end Go.Proofs.YtnblhbpfgdjnkaaGreatDoor

namespace Go.Proofs.YtnblhbpfgdjnkaaGreatDoor
open Go.RowKit
attribute [local simp] List.replicate List.range List.range.loop resA resOne retA AV.cuts AV.cut AObj.cut trim wkR wkT wkL wkN wkNR wkNL wkM wkMR wkML
set_option linter.unusedVariables false
set_option linter.unusedSimpArgs false

def idxI {α : Type} (p : α → Bool) (l : List α) : Int := match l.findIdx? p with | some q => (q : Int) | none => -1
theorem idx_hit {α : Type} {p : α → Bool} {l : List α} {q : Nat} (h : ∀ i (hi : i < l.length), i < q → p l[i] = false) (hq : q < l.length) (hp : p l[q] = true) : idxI p l = q := by
  unfold idxI
  have : l.findIdx? p = some q := by
    rw [List.findIdx?_eq_some_iff_getElem]
    exact ⟨hq, hp, fun j hj => by simpa using h j (by omega) hj⟩
  rw [this]
theorem idx_none {α : Type} {p : α → Bool} {l : List α} (h : ∀ i (hi : i < l.length), p l[i] = false) : idxI p l = -1 := by
  unfold idxI
  have : l.findIdx? p = none := by
    rw [List.findIdx?_eq_none_iff]
    intro x hx
    obtain ⟨i, hi, rfl⟩ := List.getElem_of_mem hx
    exact h i hi
  rw [this]
set_option maxRecDepth 100000 in
set_option maxHeartbeats 1000000 in
theorem idx_Item (p : It → Bool) (l : List It) (K : Nat) (caps : List AV) (S : ASt) (hc : ∀ x ∈ l, ∀ L, ADet Tryz.prog K (itV x :: AV.ups 1 caps) (L :: S) (B (p x)) (L :: S)) :
    ADet Tryz.prog 122 [.p (.sl 16 (l.map It.enc)), .fn (.func K) [] caps] S (I (idxI p l)) S := by
  refine ADet.okP Tryz.call122 0 rfl fun hok => ?_
  have hlen := okl hok
  refine ADet.intro mixed Tryz.call122 Tryz.func122 rfl ?_
  simp [Tryz.ntmps122]
  refine awp_loop (fun q : Nat => q ≤ l.length ∧ ∀ i (hi : i < l.length), i < q → p l[i] = false) (fun q => [.p (.sl 16 (l.map It.enc)), .fn (.func K) [] (AV.ups 1 caps), .any, .any, .any, .any, .any, I l.length, I q, .any, .any, .any, .any, .any, .any, .any, .any, .any, .any]) (fun q => [] :: S) (fun q => l.length - q) 0 ⟨Nat.zero_le _, fun i hi h => by omega⟩ ?_ ?_ ?_
  · simp
  · simp
  rintro q ⟨hq, hall⟩
  by_cases hlt : q < l.length
  · have hlt' : (q : Int) < (l.length : Int) := by omega
    generalize hx : l[q] = x
    have hx2 := hc x (by rw [← hx]; exact List.getElem_mem hlt)
    simp [hlt, hlt', hx, It.enc]
    refine ⟨_, _, hx2 _, ?_⟩
    cases hp : p x with
    | true =>
      have := idx_hit hall hlt (by rw [hx]; exact hp)
      simp [this]
    | false =>
      simp
      exact ⟨q + 1, ⟨hlt, fun i hi h => by
        rcases Nat.lt_or_ge i q with h' | h'
        · exact hall i hi h'
        · obtain rfl : i = q := by omega
          rw [hx]; exact hp⟩, by omega, wrap_succ hlt⟩
  · have hlt' : ¬ (q : Int) < (l.length : Int) := by omega
    have := idx_none (p := p) (l := l) (fun i hi => hall i hi (by omega))
    simp [hlt', this]
/-- the first parts may stand -/
def OkTo (t : Ty) (q : Nat) : Prop := ∀ i (hi : i < t.args.length), i < q → (t.args[i].stands && partOk t.kind t.args[i]) = true
end Go.Proofs.YtnblhbpfgdjnkaaGreatDoor
