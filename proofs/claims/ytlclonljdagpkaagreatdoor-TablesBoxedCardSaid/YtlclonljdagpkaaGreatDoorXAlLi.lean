/- A part of the proof. The statement is proved in the claim's last text. -/
import Derived.Test.YtlclonljdagpkaaGreatDoorXMLe
import Derived.Test.YtlclonljdagpkaaGreatDoorXMLd
set_option linter.unusedVariables false
set_option linter.unusedSimpArgs false
set_option maxRecDepth 100000
set_option maxHeartbeats 32000000
namespace Go.Proofs.YtlclonljdagpkaaGreatDoor
open Go.RowKit
theorem Lent.rowP {S : ASt} {o n k : Nat} {E : TypeId} {α : Type} {enc : α → List PV} {l : List α} (h : get2 S 0 o = some (.row E k n (rowC enc l))) (hn : l.length = n) (hk : ∀ x,(enc x).length = k) : Lent S (.rsl 0 o n k) (.sl k (l.map enc)):=by
 refine Lent.row (css:=l.map fun f=>(enc f).map AV.p) h (by simp [hn]) (by simp [hn]) fun r cs row h1 h2=>?_
 rw [List.getElem?_map] at h1 h2
 obtain ⟨f,hf,rfl⟩:=Option.map_eq_some_iff.1 h1
 rw [hf] at h2
 obtain rfl : enc f = row:=by simpa using h2
 refine ⟨by simp [hk],hk f,fun j c q hc hq=>?_⟩
 rw [List.getElem?_map,hq] at hc
 obtain rfl : AV.p q = c:=by simpa using hc
 exact .p q
inductive LentAll (S : ASt) : List AV → List PV → Prop
 | nil : LentAll S [] []
 | cons {c : AV} {q : PV} {cs : List AV} {qs : List PV} : Lent S (c.up 0) q → LentAll S cs qs → LentAll S (c :: cs) (q :: qs)
theorem LentAll.len {S : ASt} {cs : List AV} {qs : List PV} (h : LentAll S cs qs) : cs.length = qs.length:=by
 induction h with
 | nil=>rfl
 | cons _ _ ih=>simp [ih]
theorem LentAll.get {S : ASt} {cs : List AV} {qs : List PV} (h : LentAll S cs qs) : ∀ (j : Nat) (q : PV),qs[j]? = some q → ∃ c,cs[j]? = some c ∧ Lent S (c.up 0) q:=by
 induction h with
 | nil=>intro j q h; simp at h
 | cons h1 _ ih =>
  intro j q hq
  cases j with
  | zero=>simp at hq; subst hq; exact ⟨_,rfl,h1⟩
  | succ j=>simpa using ih j q (by simpa using hq)
theorem Lent.items {S : ASt} {o n : Nat} {E : TypeId} {cs : List AV} {q : List It} (h : get2 S 0 o = some (.row E 16 n cs)) (hn : q.length = n) (hr : ∀ r (h : r < q.length),LentAll S ((cs.drop (r * 16)).take 16) q[r].enc) : Lent S (.rsl 0 o n 16) (.sl 16 (q.map It.enc)):=by
 have key : ∀ (r : Nat) (row : List PV) (j : Nat) (p : PV),(q.map It.enc)[r]? = some row → row[j]? = some p → ∃ c,cs[r * 16 + j]? = some c ∧ Lent S (c.up 0) p:=fun r row j p h1 h2=>by
  rw [List.getElem?_map] at h1
  obtain ⟨x,hx,rfl⟩:=Option.map_eq_some_iff.1 h1
  obtain ⟨hlt,rfl⟩:=List.getElem?_eq_some_iff.1 hx
  obtain ⟨c,hc,hl⟩:=(hr r hlt).get j p h2
  rw [List.getElem?_take] at hc
  split at hc
  ·rw [List.getElem?_drop] at hc; exact ⟨c,hc,hl⟩
  ·cases hc
 refine .rsl (fun x=>cs.getD x .any) h (by simp [hn]) (fun r row hr'=>?_) (fun r row j p h1 h2=>?_) fun r row j p h1 h2=>?_
 ·rw [List.getElem?_map] at hr'
  obtain ⟨x,_,rfl⟩:=Option.map_eq_some_iff.1 hr'
  rfl
 ·obtain ⟨c,hc,_⟩:=key r row j p h1 h2
  rw [List.getD,hc]; rfl
 ·obtain ⟨c,hc,hl⟩:=key r row j p h1 h2
  rw [List.getD,hc]; exact hl
end Go.Proofs.YtlclonljdagpkaaGreatDoor
