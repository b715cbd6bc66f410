/- The objects of weftwaylaw09.AutosLoop, plain. No statement is proved here. -/
import Derived.Test.YtnblhbpfgdjnkaaGreatDoorAuO
import Derived.Test.YtnblhbpfgdjnkaaGreatDoorAlLd
namespace Go.Proofs.YtnblhbpfgdjnkaaGreatDoor
open Go.RowKit
set_option linter.unusedVariables false
set_option linter.unusedSimpArgs false
abbrev nilA1 : AV := .p (.v (.slice none 0 0))
/-- the kinds, as they come -/
def bys (l : List Int) : PV := .sl 1 (l.map fun k => [pU k])
def lk (l : List Int) (j : Nat) : Int := if (l.getD j 0) % 2 = 0 then 5 else 8
theorem lk_or (l : List Int) (j : Nat) : lk l j = 5 ∨ lk l j = 8 := by unfold lk; split <;> simp
/-- an item's cells; its fields lie in a row of their own -/
def itC (j o m : Nat) : List AV := [U 1, Sg (nmL j), .rsl 0 o m 4, U 0, Sg emS, nilA1, nilA1, U 0, I 0, Sg emS, Sg emS, Sg emS, nilA1, nilA1, I 0, I 0]
def itsC (i : Nat) : List AV := ((List.range i).map fun j => itC j (5 * j + 5) 1).flatten
def fiC (f : Fi) : List AV := f.enc.map .p
theorem itsC_succ (i : Nat) : itsC (i + 1) = itsC i ++ itC i (5 * i + 5) 1 := by
  unfold itsC
  rw [List.range_succ, List.map_append, List.flatten_append]
  simp
def loopG (R : ASt) (x : Nat × List AObj) : ASt := (.cells [.rsl 0 1 x.1 16] 24 :: .row 54 16 x.1 (itsC x.1) :: x.2) :: R
def loopI (l : List Int) (x : Nat × List AObj) : Prop := x.1 ≤ l.length ∧ x.2.length = 5 * x.1 ∧ (∀ o ∈ x.2, ∀ m, wkL [o.cut m] [o]) ∧ ∀ j, j < x.1 → x.2[5 * j + 3]? = some (.row 56 4 1 (fiC (chF (lk l) l.length j)))
theorem wkR_refl : ∀ l : List AV, wkR l l
  | [] => trivial
  | a :: l => ⟨.inr rfl, wkR_refl l⟩
theorem wkL_cons {o o' : AObj} {a b : List AObj} (h : wkL [o] [o']) (k : wkL a b) : wkL (o :: a) (o' :: b) := by
  cases o <;> cases o' <;> simp_all [wkL]
theorem wkL_ex {m : Nat} {c d : List AObj} (h : wkL c d) : ∀ ex : List AObj, (∀ o ∈ ex, ∀ m, wkL [o.cut m] [o]) → wkL (ex.map (AObj.cut m) ++ c) (ex ++ d)
  | [], _ => h
  | o :: ex, hc => wkL_cons (hc o (by simp) m) (wkL_ex h ex fun o ho => hc o (List.mem_cons_of_mem _ ho))
theorem cuts_its {N i : Nat} (h : 5 * i < N) : AV.cuts N (itsC i) = itsC i := by
  rw [cuts_map]
  conv => rhs; rw [← List.map_id (itsC i)]
  refine List.map_congr_left fun c hc => ?_
  unfold itsC at hc
  obtain ⟨cs, h1, h2⟩ := List.mem_flatten.1 hc
  obtain ⟨j, hj, rfl⟩ := List.mem_map.1 h1
  have hj' : j < i := List.mem_range.1 hj
  have hlt : 5 * j + 5 < N := by omega
  simp only [itC, List.mem_cons, List.not_mem_nil, or_false] at h2
  rcases h2 with rfl | rfl | rfl | rfl | rfl | rfl | rfl | rfl | rfl | rfl | rfl | rfl | rfl | rfl | rfl | rfl <;> simp [AV.cut, hlt]
theorem wk_end {N i : Nat} {T E : TypeId} {ex B B' : List AObj} (hN : N = 2 + 5 * (i + 1)) (hex : ex.length = 5 * i) (hB : B.length = 5) (hcut : ∀ o ∈ ex, ∀ m, wkL [o.cut m] [o]) (hBB : wkL (B.map (AObj.cut N)) B') :
    wkL (List.map (AObj.cut N) (List.take N (.cells [.rsl 0 1 (i + 1) 16] T :: .row E 16 (i + 1) (itsC i ++ itC i (5 * i + 5) 1) :: (ex ++ B)))) (.cells [.rsl 0 1 (i + 1) 16] T :: .row E 16 (i + 1) (itsC (i + 1)) :: (ex ++ B')) := by
  rw [List.take_of_length_le (by simp [hex, hB]; omega), ← itsC_succ, List.map_cons, List.map_cons, List.map_append]
  have h1 : AObj.cut N (.cells [.rsl 0 1 (i + 1) 16] T) = .cells [.rsl 0 1 (i + 1) 16] T := by
    have : 1 < N := by omega
    simp [AObj.cut, AV.cuts, AV.cut, this]
  have h2 : AObj.cut N (.row E 16 (i + 1) (itsC (i + 1))) = .row E 16 (i + 1) (itsC (i + 1)) := by
    show AObj.row E 16 (i + 1) (AV.cuts N (itsC (i + 1))) = _
    rw [cuts_its (by omega)]
  rw [h1, h2]
  exact ⟨⟨rfl, wkR_refl _⟩, ⟨⟨⟨rfl, rfl, rfl⟩, wkR_refl _⟩, wkL_ex hBB ex hcut⟩⟩
/-! ### The second part: the objects as they are in a turn -/
def cntT (t a j : Nat) : Nat := if j = a then t + 1 else 1
def itsT (t n a : Nat) : List AV := ((List.range n).map fun j => itC j (5 * j + 5) (cntT t a j)).flatten
def fsT (ks : Nat → Int) (n a : Nat) (k : Int) (t : Nat) : Nat → List Fi := if t = 0 then fs0 ks n else fs1 ks n a k
def fiCs (l : List Fi) : List AV := (l.map fiC).flatten
structure StA (ks : Nat → Int) (n a : Nat) (k : Int) (t : Nat) (A : List AObj) : Prop where
  len : A.length = 2 + 5 * n
  keep : ∀ o ∈ A, wkL [o.cut (2 + 5 * n)] [o]
  c0 : A[0]? = some (.cells [.rsl 0 1 n 16] 24)
  c1 : A[1]? = some (.row 54 16 n (itsT t n a))
  fi : ∀ j, j < n → A[5 * j + 5]? = some (.row 56 4 (cntT t a j) (fiCs (fsT ks n a k t j)))
theorem itsT_zero (n a : Nat) : itsT 0 n a = itsC n := by
  unfold itsT itsC
  congr 1
  refine List.map_congr_left fun j _ => ?_
  unfold cntT
  split <;> rfl
theorem fsT_len (ks : Nat → Int) (n a : Nat) (k : Int) {t : Nat} (ht : t < 2) (j : Nat) : (fsT ks n a k t j).length = cntT t a j := by
  unfold fsT cntT
  rcases (by omega : t = 0 ∨ t = 1) with rfl | rfl
  · rw [if_pos rfl]
    unfold fs0
    split <;> rfl
  · rw [if_neg (by omega)]
    unfold fs1
    split <;> rfl
theorem sum16 : ∀ n : Nat, ((List.range n).map fun _ => 16).sum = 16 * n
  | 0 => rfl
  | n + 1 => by
    rw [List.range_succ, List.map_append, List.sum_append, sum16 n]
    simp
    omega
theorem flat16 {f : Nat → List AV} (h : ∀ j, (f j).length = 16) : ∀ (n j q : Nat), j < n → q < 16 → ((List.range n).map f).flatten[16 * j + q]? = (f j)[q]?
  | 0, j, q, hj, hq => by omega
  | n + 1, j, q, hj, hq => by
    have hlen : ((List.range n).map f).flatten.length = 16 * n := by
      rw [List.length_flatten, List.map_map]
      have : (List.length ∘ f) = fun _ => 16 := by funext j; exact h j
      rw [this, sum16]
    rw [List.range_succ, List.map_append, List.flatten_append]
    rcases Nat.lt_or_ge j n with hjn | hjn
    · rw [List.getElem?_append_left (by rw [hlen]; omega)]
      exact flat16 h n j q hjn hq
    · obtain rfl : j = n := by omega
      rw [List.getElem?_append_right (by rw [hlen]; omega), hlen]
      simp
theorem itsT_len (t n a : Nat) : (itsT t n a).length = 16 * n := by
  unfold itsT
  rw [List.length_flatten, List.map_map]
  have : (List.length ∘ fun j => itC j (5 * j + 5) (cntT t a j)) = fun _ => 16 := by funext j; rfl
  rw [this, sum16]
theorem itsT_get (t n a : Nat) {j q : Nat} (hj : j < n) (hq : q < 16) : (itsT t n a)[16 * j + q]? = (itC j (5 * j + 5) (cntT t a j))[q]? := flat16 (f := fun j => itC j (5 * j + 5) (cntT t a j)) (fun j => rfl) n j q hj hq
theorem itsT_set {t n a : Nat} (ha : a < n) : (itsT t n a).set (16 * a + 2) (.rsl 0 (5 * a + 5) (t + 2) 4) = itsT (t + 1) n a := by
  apply List.ext_getElem?
  intro x
  rcases Nat.lt_or_ge x (16 * n) with hx | hx
  · obtain ⟨j, q, rfl, hq⟩ : ∃ j q, x = 16 * j + q ∧ q < 16 := ⟨x / 16, x % 16, (Nat.div_add_mod x 16).symm, Nat.mod_lt _ (by omega)⟩
    have hj : j < n := by omega
    rw [itsT_get _ _ _ hj hq, List.getElem?_set]
    split
    · rename_i he
      obtain ⟨rfl, rfl⟩ : a = j ∧ 2 = q := by omega
      rw [if_pos (by rw [itsT_len]; omega)]
      simp [itC, cntT]
    · rename_i he
      rw [itsT_get _ _ _ hj hq]
      by_cases hja : j = a
      · subst hja
        have hq2 : q ≠ 2 := fun h => he (by omega)
        match q, hq, hq2 with
        | 0, _, _ => rfl
        | 1, _, _ => rfl
        | 3, _, _ => rfl
        | 4, _, _ => rfl
        | 5, _, _ => rfl
        | 6, _, _ => rfl
        | 7, _, _ => rfl
        | 8, _, _ => rfl
        | 9, _, _ => rfl
        | 10, _, _ => rfl
        | 11, _, _ => rfl
        | 12, _, _ => rfl
        | 13, _, _ => rfl
        | 14, _, _ => rfl
        | 15, _, _ => rfl
        | q + 16, hq, _ => exact absurd hq (by omega)
      · simp [cntT, hja]
  · rw [List.getElem?_eq_none (by rw [List.length_set, itsT_len]; omega), List.getElem?_eq_none (by rw [itsT_len]; omega)]
theorem fiC_up (f : Fi) : ∀ c ∈ fiC f, ∃ q, c = .p q := fun c hc => by
  obtain ⟨q, _, rfl⟩ := List.mem_map.1 hc
  exact ⟨q, rfl⟩
theorem lent_fields {S : ASt} {o : Nat} {fs : List Fi} {E : TypeId} (h : get2 S 0 o = some (.row E 4 fs.length (fiCs fs))) : Lent S (.rsl 0 o fs.length 4) (.sl 4 (fs.map Fi.enc)) := by
  refine Lent.row (css := fs.map fiC) h (by simp) (by simp) fun r cs row hcs hrow => ?_
  rw [List.getElem?_map] at hcs hrow
  obtain ⟨f, hf, rfl⟩ := Option.map_eq_some_iff.1 hcs
  rw [hf] at hrow
  cases hrow
  refine ⟨rfl, rfl, fun j c q hc hq => ?_⟩
  unfold fiC at hc
  rw [List.getElem?_map, hq] at hc
  cases hc
  exact .p q
theorem lent_prog {S : ASt} {fs : Nat → List Fi} {n : Nat} {cn : Nat → Nat} {E E2 : TypeId} (h1 : get2 S 0 1 = some (.row E 16 n (((List.range n).map fun j => itC j (5 * j + 5) (cn j)).flatten))) (hcn : ∀ j, (fs j).length = cn j) (h2 : ∀ j, j < n → get2 S 0 (5 * j + 5) = some (.row E2 4 (cn j) (fiCs (fs j)))) : Lent S (.rsl 0 1 n 16) (prog (chP fs n)) := by
  refine Lent.row h1 (by simp [chP]) (by simp) fun r cs row hcs hrow => ?_
  unfold chP at hrow
  rw [List.map_map, List.getElem?_map] at hrow
  rw [List.getElem?_map] at hcs
  obtain ⟨j, hj, rfl⟩ := Option.map_eq_some_iff.1 hcs
  rw [hj] at hrow
  cases hrow
  have hjn : j < n := List.mem_range.1 (List.mem_of_getElem? hj)
  refine ⟨rfl, rfl, fun q c p hc hp => ?_⟩
  have hl := lent_fields (S := S) (fs := fs j) (by rw [hcn]; exact h2 j hjn)
  rw [hcn] at hl
  match q, hc, hp with
  | 0, hc, hp => cases hc; cases hp; exact .p _
  | 1, hc, hp => cases hc; cases hp; exact .p _
  | 2, hc, hp => cases hc; cases hp; exact hl
  | 3, hc, hp => cases hc; cases hp; exact .p _
  | 4, hc, hp => cases hc; cases hp; exact .p _
  | 5, hc, hp => cases hc; cases hp; exact .nil _
  | 6, hc, hp => cases hc; cases hp; exact .nil _
  | 7, hc, hp => cases hc; cases hp; exact .p _
  | 8, hc, hp => cases hc; cases hp; exact .p _
  | 9, hc, hp => cases hc; cases hp; exact .p _
  | 10, hc, hp => cases hc; cases hp; exact .p _
  | 11, hc, hp => cases hc; cases hp; exact .p _
  | 12, hc, hp => cases hc; cases hp; exact .nil _
  | 13, hc, hp => cases hc; cases hp; exact .nil _
  | 14, hc, hp => cases hc; cases hp; exact .p _
  | 15, hc, hp => cases hc; cases hp; exact .p _
  | _ + 16, hc, hp => simp [itC] at hc
theorem StA.lent {ks : Nat → Int} {n a : Nat} {k : Int} {t : Nat} {A : List AObj} (h : StA ks n a k t A) (ht : t < 2) (B : List AObj) (S : ASt) : Lent ((A ++ B) :: S) (.rsl 0 1 n 16) (prog (chP (fsT ks n a k t) n)) := by
  refine lent_prog (cn := cntT t a) (E := 54) (E2 := 56) ?_ (fun j => fsT_len ks n a k ht j) fun j hj => ?_
  · show (A ++ B)[1]? = _
    rw [List.getElem?_append_left (by rw [h.len]; omega)]
    exact h.c1
  · show (A ++ B)[5 * j + 5]? = _
    rw [List.getElem?_append_left (by rw [h.len]; omega)]
    exact h.fi j hj
theorem wk_keep {A B : List AObj} (h : ∀ o ∈ A, wkL [o.cut A.length] [o]) : wkL (List.map (AObj.cut A.length) (List.take A.length (A ++ B))) A := by
  rw [List.take_left]
  have key : ∀ (m : Nat) (A : List AObj), (∀ o ∈ A, wkL [o.cut m] [o]) → wkL (A.map (AObj.cut m)) A := by
    intro m A
    induction A with
    | nil => intro _; exact trivial
    | cons o A ih => intro hc; exact wkL_cons (hc o (by simp)) (ih fun o ho => hc o (List.mem_cons_of_mem _ ho))
  exact key _ A h
theorem wk_dead : ∀ A : List AObj, wkL A (List.replicate A.length .dead)
  | [] => trivial
  | o :: A => wkL_cons (by cases o <;> trivial) (wk_dead A)
theorem StA.start {ks : Nat → Int} {n a : Nat} (k : Int) {ex : List AObj} (hexl : ex.length = 5 * n) (hcut : ∀ o ∈ ex, ∀ m, wkL [o.cut m] [o]) (hrow : ∀ j, j < n → ex[5 * j + 3]? = some (.row 56 4 1 (fiC (chF ks n j)))) :
    StA ks n a k 0 (.cells [.rsl 0 1 n 16] 24 :: .row 54 16 n (itsC n) :: ex) := by
  refine ⟨by simp [hexl]; omega, fun o ho => ?_, rfl, by rw [itsT_zero]; rfl, fun j hj => ?_⟩
  · rcases List.mem_cons.1 ho with rfl | ho
    · have : 1 < 2 + 5 * n := by omega
      simp [AObj.cut, AV.cuts, AV.cut, this, wkL, wkR]
    · rcases List.mem_cons.1 ho with rfl | ho
      · show wkL [AObj.row _ 16 n (AV.cuts _ (itsC n))] _
        rw [cuts_its (by omega)]
        exact ⟨⟨⟨rfl, rfl, rfl⟩, wkR_refl _⟩, trivial⟩
      · exact hcut o ho _
  · show ex[5 * j + 3]? = _
    rw [hrow j hj]
    have h1 : cntT 0 a j = 1 := by unfold cntT; split <;> rfl
    rw [h1]
    simp [fsT, fs0, fiCs]
theorem StA.next {ks : Nat → Int} {n a : Nat} {k : Int} {A : List AObj} (ha : a < n) (h : StA ks n a k 0 A) : StA ks n a k 1 ((A.set (5 * a + 5) (.row 56 4 2 (fiCs (fsT ks n a k 0 a) ++ fiC (moreF k)))).set 1 (.row 54 16 n (itsT 1 n a))) := by
  have hl := h.len
  refine ⟨by simp [hl], fun o ho => ?_, ?_, ?_, fun j hj => ?_⟩
  · rcases List.mem_or_eq_of_mem_set ho with ho | rfl
    · rcases List.mem_or_eq_of_mem_set ho with ho | rfl
      · exact h.keep o ho
      · have hc : ∀ c ∈ (fiCs (fsT ks n a k 0 a) ++ fiC (moreF k)), AV.cut (2 + 5 * n) c = c := fun c hc => by
          rcases List.mem_append.1 hc with hc | hc
          · obtain ⟨cs, h1, h2⟩ := List.mem_flatten.1 hc
            obtain ⟨f, _, rfl⟩ := List.mem_map.1 h1
            obtain ⟨q, rfl⟩ := fiC_up f c h2
            rfl
          · obtain ⟨q, rfl⟩ := fiC_up _ c hc
            rfl
        show wkL [AObj.row _ 4 2 (AV.cuts _ _)] _
        rw [cuts_map, List.map_congr_left hc, List.map_id']
        exact ⟨⟨⟨rfl, rfl, rfl⟩, wkR_refl _⟩, trivial⟩
    · have hc : ∀ c ∈ itsT 1 n a, AV.cut (2 + 5 * n) c = c := fun c hc => by
        unfold itsT at hc
        obtain ⟨cs, h1, h2⟩ := List.mem_flatten.1 hc
        obtain ⟨j, hj, rfl⟩ := List.mem_map.1 h1
        have hj' : j < n := List.mem_range.1 hj
        have hlt : 5 * j + 5 < 2 + 5 * n := by omega
        simp only [itC, List.mem_cons, List.not_mem_nil, or_false] at h2
        rcases h2 with rfl | rfl | rfl | rfl | rfl | rfl | rfl | rfl | rfl | rfl | rfl | rfl | rfl | rfl | rfl | rfl <;> simp [AV.cut, hlt]
      show wkL [AObj.row _ 16 n (AV.cuts _ _)] _
      rw [cuts_map, List.map_congr_left hc, List.map_id']
      exact ⟨⟨⟨rfl, rfl, rfl⟩, wkR_refl _⟩, trivial⟩
  · rw [List.getElem?_set_ne (by omega), List.getElem?_set_ne (by omega)]
    exact h.c0
  · rw [List.getElem?_set_self (by simp [hl]; omega)]
  · rw [List.getElem?_set_ne (by omega)]
    by_cases hja : j = a
    · subst hja
      rw [List.getElem?_set_self (by omega)]
      simp [cntT, fsT, fs0, fs1, fiCs]
    · rw [List.getElem?_set_ne (by omega), h.fi j hj]
      simp [cntT, hja, fsT, fs0, fs1]
theorem wkL_self {m : Nat} {o : AObj} (h : wkL [o.cut m] [o]) : wkL [o] [o] := by
  cases o with
  | raw => exact h.elim
  | dead => trivial
  | cells => exact ⟨⟨rfl, wkR_refl _⟩, trivial⟩
  | tok => exact ⟨⟨rfl, rfl, rfl⟩, trivial⟩
  | map => exact ⟨rfl, trivial⟩
  | row => exact ⟨⟨⟨rfl, rfl, rfl⟩, wkR_refl _⟩, trivial⟩
theorem wkL_selfs {m : Nat} : ∀ {A : List AObj}, (∀ o ∈ A, wkL [o.cut m] [o]) → wkL A A
  | [], _ => trivial
  | o :: A, h => wkL_cons (wkL_self (h o (by simp))) (wkL_selfs fun o ho => h o (List.mem_cons_of_mem _ ho))
/-! ### What is asked of these programs -/
theorem named_sm (i : Nat) : TySm (namedT i) := .mk _ (show 2 ≤ 20000 by omega) (show 0 ≤ 20000 by omega) fun x hx => by cases hx
theorem int_sm : TySm (.mk 1 emS []) := .mk _ (show 0 ≤ 20000 by omega) (show 0 ≤ 20000 by omega) fun x hx => by cases hx
theorem chP_sm {ks : Nat → Int} {n : Nat} (hn : n ≤ 20) (fs : Nat → List Fi) (hfs : ∀ j, fs j = [chF ks n j] ∨ ∃ k, (k = 6 ∨ k = 7) ∧ fs j = [chF ks n j, moreF k]) : PrSm (chP fs n) := by
  refine ⟨by simp [chP]; omega, fun x hx => ?_⟩
  obtain ⟨j, hj, rfl⟩ := List.mem_map.1 hx
  have hl : FiSm (chF ks n j) := ⟨show 1 ≤ 20000 by omega, .mk _ (show 0 ≤ 20000 by omega) (show 1 ≤ 20000 by omega) fun x hx => by
    have : x = namedT ((j + 1) % n) := List.mem_singleton.1 hx
    subst this
    exact named_sm _⟩
  have hm : ∀ k, FiSm (moreF k) := fun k => ⟨show 1 ≤ 20000 by omega, .mk _ (show 0 ≤ 20000 by omega) (show 1 ≤ 20000 by omega) fun x hx => by
    have : x = .mk 1 emS [] := List.mem_singleton.1 hx
    subst this
    exact int_sm⟩
  have z1 : TySm zeroT := .mk _ (show 0 ≤ 20000 by omega) (show 0 ≤ 20000 by omega) fun x hx => by cases hx
  have z2 : ExSm zeroX := .mk _ (show 0 ≤ 20000 by omega) (show 0 ≤ 20000 by omega) ⟨show 0 ≤ 20000 by omega, show 0 ≤ 20000 by omega, fun x hx => by cases hx⟩ (show 0 ≤ 20000 by omega) fun x hx => by cases hx
  have z3 : StsSm [] := ⟨show 0 ≤ 20000 by omega, fun x hx => by cases hx⟩
  refine ⟨show 2 ≤ 20000 by omega, ?_, z1, z3, z2⟩
  show (fs j).length ≤ 20000 ∧ ∀ g ∈ fs j, FiSm g
  rcases hfs j with h | ⟨k, _, h⟩
  · rw [h]
    exact ⟨by simp, fun g hg => by simp at hg; subst hg; exact hl⟩
  · rw [h]
    refine ⟨by simp, fun g hg => ?_⟩
    simp at hg
    rcases hg with rfl | rfl
    · exact hl
    · exact hm k
theorem fsT_cases (ks : Nat → Int) (n a : Nat) {k : Int} (hk : k = 6 ∨ k = 7) (t : Nat) (j : Nat) : fsT ks n a k t j = [chF ks n j] ∨ ∃ k', (k' = 6 ∨ k' = 7) ∧ fsT ks n a k t j = [chF ks n j, moreF k'] := by
  unfold fsT
  split
  · exact .inl rfl
  · exact fs1_cases ks n a hk j
theorem wkT_self {A : List AObj} {N : Nat} {S : ASt} (hl : A.length = N) (h : ∀ o ∈ A, wkL [o.cut N] [o]) : wkT (trim N (A :: S)) (A :: S) := by
  subst hl
  have := wk_keep (A := A) (B := []) h
  rw [List.append_nil] at this
  exact ⟨this, rfl⟩
theorem wkT_eq {X Y : List AObj} {N : Nat} {S : ASt} (e : X = Y) (hl : Y.length = N) (h : ∀ o ∈ Y, wkL [o.cut N] [o]) : wkT (trim N (X :: S)) (Y :: S) := by
  subst e
  exact wkT_self hl h
theorem wkT_dead {A : List AObj} {N : Nat} {S : ASt} (hl : A.length = N) : wkT (trim N (A :: S)) (List.replicate N .dead :: S) := by
  have := wk_dead (List.map (AObj.cut N) (List.take N A))
  rw [List.length_map, List.length_take, hl, Nat.min_self] at this
  exact ⟨this, rfl⟩
end Go.Proofs.YtnblhbpfgdjnkaaGreatDoor
