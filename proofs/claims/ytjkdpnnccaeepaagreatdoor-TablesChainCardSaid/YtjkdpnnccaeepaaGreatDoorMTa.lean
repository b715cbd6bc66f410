/- 2 texts of this proof, one behind the other: TaP TaF. The statement is proved in the claim's last text. -/
import Derived.Test.YtjkdpnnccaeepaaGreatDoorMWp
import Derived.Test.YtjkdpnnccaeepaaGreatDoorMWh
namespace Go.Proofs.YtjkdpnnccaeepaaGreatDoor
open Go.RowKit
set_option linter.unusedVariables false

mutual
def Ty.owned : Ty → Bool
  | .mk k _ l => (decide (k ≠ 13) && decide (k ≠ 14)) && Ty.owneds l
def Ty.owneds : List Ty → Bool
  | [] => true
  | t :: l => t.owned && Ty.owneds l
end
theorem owneds_all (l : List Ty) : Ty.owneds l = l.all Ty.owned := by
  induction l with
  | nil => rfl
  | cons t l ih => simp [Ty.owneds, ih]
theorem owned_eq (t : Ty) : t.owned = ((decide (t.kind ≠ 13) && decide (t.kind ≠ 14)) && t.args.all Ty.owned) := by
  cases t; simp only [Ty.owned, owneds_all]; rfl
/-- may a part stand in something of a kind? -/
def partOk (k : Int) (x : Ty) : Bool := (!((k == 6) && decide (3 < x.kind))) && ((k == 13) || ((k == 14) || x.owned))
mutual
def Ty.stands : Ty → Bool
  | .mk k _ l => Ty.standss k l
def Ty.standss (k : Int) : List Ty → Bool
  | [] => true
  | .mk k' s' l' :: l => (Ty.stands (.mk k' s' l') && partOk k (.mk k' s' l')) && Ty.standss k l
end
theorem standss_all (k : Int) (l : List Ty) : Ty.standss k l = l.all fun x => x.stands && partOk k x := by
  induction l with
  | nil => rfl
  | cons t l ih => cases t; simp [Ty.standss, ih]
theorem stands_eq (t : Ty) : t.stands = t.args.all fun x => x.stands && partOk t.kind x := by
  cases t; simp only [Ty.stands, standss_all]; rfl

/-- a fault: its number, its place -/
abbrev Flt := Int × Int
def firstIt (p : List It) (s : ByteArray) : Option It := p.find? fun x => (decide (x.kind ≠ 3)) && sEq x.name s
/-- does a struct, an enum have itself? what has been gone through stays so -/
def foundF (p : List It) (nm : ByteArray) : Nat → List Fi → List ByteArray → Option (Bool × List ByteArray)
  | _, [], gone => some (false, gone)
  | 0, _ :: _, _ => none
  | n + 1, f :: fs, gone =>
    if f.type.kind ≠ 4 then foundF p nm n fs gone
    else if sEq f.type.name nm = true then some (true, gone)
    else if gone.any (fun g => sEq f.type.name g) = true then foundF p nm n fs gone
    else
      match firstIt p f.type.name with
      | none => foundF p nm n fs (gone ++ [f.type.name])
      | some z =>
        match foundF p nm n z.fields (gone ++ [f.type.name]) with
        | none => none
        | some (true, g) => some (true, g)
        | some (false, g) => foundF p nm n fs g
def wrongL (holds : Bool) (e a : Int) : List Flt := if holds = true then [] else [(e, a)]
mutual
def St.tabs : St → List Flt
  | .mk op _ _ _ ty _ _ _ b el ar pos => wrongL ((op != 12) || (ty.stands && ty.owned)) 70 pos ++ (St.tabss b ++ (St.tabss el ++ Ar.tabss ar))
def St.tabss : List St → List Flt
  | [] => []
  | s :: l => s.tabs ++ St.tabss l
def Ar.tabss : List (ArOf St) → List Flt
  | [] => []
  | ⟨_, _, b⟩ :: l => St.tabss b ++ Ar.tabss l
end
def It.tabs (p : List It) (n : Nat) (x : It) : Option (List Flt) :=
  let a := x.fields.flatMap (fun f => wrongL (f.type.stands && ((x.kind == 3) || f.type.owned)) 70 x.pos) ++ (wrongL (x.result.stands && x.result.owned) 70 x.pos ++ St.tabss x.body)
  if x.kind = 3 then some a
  else (foundF p x.name n x.fields []).map fun r => a ++ wrongL (!r.1) 71 x.pos
def itsTabs (p : List It) (n : Nat) : List It → Option (List Flt)
  | [] => some []
  | x :: l => match x.tabs p n, itsTabs p n l with
    | some a, some b => some (a ++ b)
    | _, _ => none
def checkT (p : List It) (n : Nat) : Option (List Flt) := if prWhole p then itsTabs p n p else some [(2, 0)]
end Go.Proofs.YtjkdpnnccaeepaaGreatDoor

namespace Go.Proofs.YtjkdpnnccaeepaaGreatDoor
open Go.RowKit
attribute [local simp] List.replicate List.range List.range.loop resA resOne retA AV.cuts AV.cut AObj.cut trim wkR wkT wkL wkN wkNR wkNL wkM wkMR wkML
set_option linter.unusedVariables false
set_option linter.unusedSimpArgs false

def idxI {α : Type} (p : α → Bool) (l : List α) : Int := match l.findIdx? p with | some q => (q : Int) | none => -1
theorem idx_hit {α : Type} {p : α → Bool} {l : List α} {q : Nat} (h : ∀ i (hi : i < l.length), i < q → p l[i] = false) (hq : q < l.length) (hp : p l[q] = true) : idxI p l = q := by
  unfold idxI
  have : l.findIdx? p = some q := by
    rw [List.findIdx?_eq_some_iff_getElem]
    exact ⟨hq, hp, fun j hj => by simpa using h j (by omega) hj⟩
  rw [this]
theorem idx_none {α : Type} {p : α → Bool} {l : List α} (h : ∀ i (hi : i < l.length), p l[i] = false) : idxI p l = -1 := by
  unfold idxI
  have : l.findIdx? p = none := by
    rw [List.findIdx?_eq_none_iff]
    intro x hx
    obtain ⟨i, hi, rfl⟩ := List.getElem_of_mem hx
    exact h i hi
  rw [this]
theorem idx_any {α : Type} (p : α → Bool) (l : List α) : decide (0 ≤ idxI p l) = l.any p := by
  unfold idxI
  cases h : l.findIdx? p with
  | none =>
    rw [List.findIdx?_eq_none_iff] at h
    have : l.any p = false := by
      rw [List.any_eq_false]
      intro x hx
      simp [h x hx]
    rw [this]; rfl
  | some q =>
    rw [List.findIdx?_eq_some_iff_getElem] at h
    obtain ⟨hq, hp, _⟩ := h
    have : l.any p = true := List.any_eq_true.2 ⟨_, List.getElem_mem hq, hp⟩
    rw [this]; simp
set_option maxRecDepth 100000 in
set_option maxHeartbeats 1000000 in
theorem idx_Type (p : Ty → Bool) (l : List Ty) (K : Nat) (caps : List AV) (S : ASt) (hc : ∀ x ∈ l, ∀ L, ADet Tryz.prog K (tyV x :: AV.ups 1 caps) (L :: S) (B (p x)) (L :: S)) :
    ADet Tryz.prog 38 [.p (.sl 3 (l.map Ty.enc)), .fn (.func K) [] caps] S (I (idxI p l)) S := by
  refine ADet.okP Tryz.call38 0 rfl fun hok => ?_
  have hlen := okl hok
  refine ADet.intro mixed Tryz.call38 Tryz.func38 rfl ?_
  simp [Tryz.ntmps38]
  refine awp_loop (fun q : Nat => q ≤ l.length ∧ ∀ i (hi : i < l.length), i < q → p l[i] = false) (fun q => [.p (.sl 3 (l.map Ty.enc)), .fn (.func K) [] (AV.ups 1 caps), .any, .any, .any, .any, .any, I l.length, I q, .any, .any, .any, .any, .any, .any, .any, .any, .any, .any]) (fun q => [] :: S) (fun q => l.length - q) 0 ⟨Nat.zero_le _, fun i hi h => by omega⟩ ?_ ?_ ?_
  · simp
  · simp
  rintro q ⟨hq, hall⟩
  by_cases hlt : q < l.length
  · have hlt' : (q : Int) < (l.length : Int) := by omega
    generalize hx : l[q] = x
    have hx2 := hc x (by rw [← hx]; exact List.getElem_mem hlt)
    simp [hlt, hlt', hx, tyEnc]
    refine ⟨_, _, hx2 _, ?_⟩
    cases hp : p x with
    | true =>
      have := idx_hit hall hlt (by rw [hx]; exact hp)
      simp [this]
    | false =>
      simp
      exact ⟨q + 1, ⟨hlt, fun i hi h => by
        rcases Nat.lt_or_ge i q with h' | h'
        · exact hall i hi h'
        · obtain rfl : i = q := by omega
          rw [hx]; exact hp⟩, by omega, wrap_succ hlt⟩
  · have hlt' : ¬ (q : Int) < (l.length : Int) := by omega
    have := idx_none (p := p) (l := l) (fun i hi => hall i hi (by omega))
    simp [hlt', this]
set_option maxRecDepth 100000 in
set_option maxHeartbeats 1000000 in
theorem idx_Item (p : It → Bool) (l : List It) (K : Nat) (caps : List AV) (S : ASt) (hc : ∀ x ∈ l, ∀ L, ADet Tryz.prog K (itV x :: AV.ups 1 caps) (L :: S) (B (p x)) (L :: S)) :
    ADet Tryz.prog 39 [.p (.sl 16 (l.map It.enc)), .fn (.func K) [] caps] S (I (idxI p l)) S := by
  refine ADet.okP Tryz.call39 0 rfl fun hok => ?_
  have hlen := okl hok
  refine ADet.intro mixed Tryz.call39 Tryz.func39 rfl ?_
  simp [Tryz.ntmps39]
  refine awp_loop (fun q : Nat => q ≤ l.length ∧ ∀ i (hi : i < l.length), i < q → p l[i] = false) (fun q => [.p (.sl 16 (l.map It.enc)), .fn (.func K) [] (AV.ups 1 caps), .any, .any, .any, .any, .any, I l.length, I q, .any, .any, .any, .any, .any, .any, .any, .any, .any, .any]) (fun q => [] :: S) (fun q => l.length - q) 0 ⟨Nat.zero_le _, fun i hi h => by omega⟩ ?_ ?_ ?_
  · simp
  · simp
  rintro q ⟨hq, hall⟩
  by_cases hlt : q < l.length
  · have hlt' : (q : Int) < (l.length : Int) := by omega
    generalize hx : l[q] = x
    have hx2 := hc x (by rw [← hx]; exact List.getElem_mem hlt)
    simp [hlt, hlt', hx, It.enc]
    refine ⟨_, _, hx2 _, ?_⟩
    cases hp : p x with
    | true =>
      have := idx_hit hall hlt (by rw [hx]; exact hp)
      simp [this]
    | false =>
      simp
      exact ⟨q + 1, ⟨hlt, fun i hi h => by
        rcases Nat.lt_or_ge i q with h' | h'
        · exact hall i hi h'
        · obtain rfl : i = q := by omega
          rw [hx]; exact hp⟩, by omega, wrap_succ hlt⟩
  · have hlt' : ¬ (q : Int) < (l.length : Int) := by omega
    have := idx_none (p := p) (l := l) (fun i hi => hall i hi (by omega))
    simp [hlt', this]
set_option maxRecDepth 100000 in
theorem containsTypeC (p : Ty → Bool) (l : List Ty) (K : Nat) (caps : List AV) (S : ASt) (hc : ∀ x ∈ l, ∀ L M, ADet Tryz.prog K (tyV x :: AV.ups 1 (AV.ups 1 caps)) (L :: M :: S) (B (p x)) (L :: M :: S)) :
    ADet Tryz.prog 17 [.p (.sl 3 (l.map Ty.enc)), .fn (.func K) [] caps] S (B (l.any p)) S := by
  refine ADet.intro mixed Tryz.call17 Tryz.func17 rfl ?_
  simp [Tryz.ntmps17]
  refine ⟨_, _, idx_Type p l K (AV.ups 1 caps) _ (fun x hx L => hc x hx L _), ?_⟩
  have := idx_any p l
  simp [this]
theorem owned_ft (k : Int) (b : Bool) : (if k = 13 then false else (if k = 14 then false else b)) = ((decide (k ≠ 13) && decide (k ≠ 14)) && b) := by
  by_cases h1 : k = 13
  · simp [h1]
  · by_cases h2 : k = 14 <;> simp [h1, h2]
set_option maxRecDepth 100000 in
set_option maxHeartbeats 1000000 in
theorem ownedC : ∀ (t : Ty) (S : ASt), ADet Tryz.prog 10 [tyV t] S (B t.owned) S := by
  refine Ty.ind fun t ih S => ?_
  have cC : ∀ S, ADet Tryz.prog 17 [.p (.sl 3 (t.args.map Ty.enc)), .fn (.func 18) [] []] S (B (t.args.any fun x => !x.owned)) S := fun S =>
    containsTypeC _ _ _ _ _ fun x hx L M => by
      refine ADet.intro mixed Tryz.call18 Tryz.func18 rfl ?_
      simp [Tryz.ntmps18]
      refine ⟨_, _, ih x hx _, ?_⟩
      simp
  have hall : (t.args.any fun x => !x.owned) = !(t.args.all Ty.owned) := by simp [List.all_eq_not_any_not]
  rw [hall] at cC
  rw [owned_eq]
  generalize t.args.all Ty.owned = b at *
  refine ADet.intro mixed Tryz.call10 Tryz.func10 rfl ?_
  by_cases h1 : t.kind = 13
  · simp [Tryz.ntmps10, h1]
  · have h1' : (t.kind != 13) = true := by simpa using h1
    by_cases h2 : t.kind = 14
    · simp [Tryz.ntmps10, h2]
    · have h2' : (t.kind != 14) = true := by simpa using h2
      simp [Tryz.ntmps10, h1', h2']
      refine ⟨_, _, cC _, ?_⟩
      simp [h1, h2]
/-- the first parts may stand -/
def OkTo (t : Ty) (q : Nat) : Prop := ∀ i (hi : i < t.args.length), i < q → (t.args[i].stands && partOk t.kind t.args[i]) = true
set_option maxRecDepth 100000 in
set_option maxHeartbeats 2000000 in
theorem standsC : ∀ (t : Ty) (S : ASt), ADet Tryz.prog 9 [tyV t] S (B t.stands) S := by
  refine Ty.ind fun t ih S => ?_
  refine ADet.okA Tryz.call9 0 2 rfl rfl fun hok => ?_
  have hlen := okl hok
  have hse : t.stands = t.args.all fun x => x.stands && partOk t.kind x := stands_eq t
  refine ADet.intro mixed Tryz.call9 Tryz.func9 rfl ?_
  simp [Tryz.ntmps9]
  refine awp_loop (fun q : Nat => q ≤ t.args.length ∧ OkTo t q) (fun q => ([.any, .ptr 0 0 0, .any, .any, .any, .any, .p (.sl 3 (t.args.map Ty.enc)), I t.args.length, I q] ++ List.replicate 31 .any)) (fun q => [.cells [U t.kind, Sg t.name, .p (.sl 3 (t.args.map Ty.enc))] 29] :: S) (fun q => t.args.length - q) 0 ⟨Nat.zero_le _, fun i hi h => by omega⟩ ?_ ?_ ?_
  · simp
  · simp
  rintro q ⟨hq, hall⟩
  by_cases hlt : q < t.args.length
  · have hx := ih _ (List.getElem_mem hlt)
    have ox := fun S => ownedC t.args[q] S
    have hlt' : (q : Int) < (t.args.length : Int) := by omega
    have hno : (t.args[q].stands && partOk t.kind t.args[q]) = false → t.stands = false := fun h => by
      rw [hse, List.all_eq_false]
      exact ⟨_, List.getElem_mem hlt, by simp [h]⟩
    have hyes : (t.args[q].stands && partOk t.kind t.args[q]) = true → OkTo t (q + 1) := fun h i hi hiq => by
      rcases Nat.lt_or_ge i q with h' | h'
      · exact hall i hi h'
      · obtain rfl : i = q := by omega
        exact h
    generalize he : t.args[q] = x at *
    simp [hlt, hlt', he, tyEnc]
    refine ⟨_, _, hx _, ?_⟩
    cases hs : x.stands with
    | false =>
      have := hno (by simp [partOk, hs])
      simp [this]
    | true =>
      by_cases h6 : t.kind = 6
      · by_cases h3 : 3 < x.kind
        · have := hno (by simp [partOk, hs, h6, h3])
          simp [h6, h3, this]
        · simp [h6, h3]
          refine ⟨_, _, ox _, ?_⟩
          cases ho : x.owned with
          | false =>
            have := hno (by simp [partOk, hs, h6, h3, ho])
            simp [this]
          | true =>
            simp
            exact ⟨q + 1, ⟨hlt, hyes (by simp [partOk, hs, h6, h3, ho])⟩, by omega, wrap_succ hlt⟩
      · have h6' : (t.kind == 6) = false := by simpa using h6
        by_cases h13 : t.kind = 13
        · simp [h13]
          exact ⟨q + 1, ⟨hlt, hyes (by simp [partOk, hs, h13])⟩, by omega, wrap_succ hlt⟩
        · by_cases h14 : t.kind = 14
          · simp [h14]
            exact ⟨q + 1, ⟨hlt, hyes (by simp [partOk, hs, h14])⟩, by omega, wrap_succ hlt⟩
          · have h13' : (t.kind != 13) = true := by simpa using h13
            have h14' : (t.kind != 14) = true := by simpa using h14
            simp [h6', h13', h14']
            refine ⟨_, _, ox _, ?_⟩
            cases ho : x.owned with
            | false =>
              have := hno (by simp [partOk, hs, h6, h13, h14, ho])
              simp [this]
            | true =>
              simp
              exact ⟨q + 1, ⟨hlt, hyes (by simp [partOk, hs, h6, h13, h14, ho])⟩, by omega, wrap_succ hlt⟩
  · have hlt' : ¬ (q : Int) < (t.args.length : Int) := by omega
    have : t.stands = true := by
      rw [hse, List.all_eq_true]
      intro x hx
      obtain ⟨i, hi, rfl⟩ := List.getElem_of_mem hx
      exact hall i hi (by omega)
    simp [hlt', this]
end Go.Proofs.YtjkdpnnccaeepaaGreatDoor
