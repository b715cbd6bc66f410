/- A part of the proof. The statement is proved in the claim's last text. -/
import Derived.Test.YtlclonljdagpkaaGreatDoorXTbP
import Derived.Test.YtlclonljdagpkaaGreatDoorXNPt
set_option linter.unusedVariables false
set_option linter.unusedSimpArgs false
set_option maxRecDepth 100000
set_option maxHeartbeats 32000000
namespace Go.Proofs.YtlclonljdagpkaaGreatDoor
open Go.RowKit
theorem fold_sum {α : Type} {g : α → Int → Int} {c : α → Nat} : ∀ (l : List α) (n : Int),(∀ x ∈ l,∀ m,0 ≤ m → m ≤ 100000 → 0 ≤ g x m → g x m + c x ≤ m) → n ≤ 100000 → 0 ≤ roomFold g l n → roomFold g l n + ((l.map c).sum : Nat) ≤ n
 | [],n,h,h1,h2=>by simp [roomFold]
 | x :: l,n,h,h1,h2=>by
  have hn : 0 ≤ n:=fold_pos h2
  unfold roomFold at h2 ⊢
  rw [if_neg (by omega)] at h2 ⊢
  have hx:=h x (by simp) n hn h1 (fold_pos h2)
  have:=fold_sum l (g x n) (fun y hy=>h y (List.mem_cons_of_mem _ hy)) (by omega) h2
  simp only [List.map_cons,List.sum_cons]
  omega
theorem flat_len {α β : Type} (f : α → List β) (l : List α) : (l.flatMap f).length = (l.map fun x=>(f x).length).sum:=by
 induction l with
 | nil=>rfl
 | cons x l ih=>rw [List.flatMap_cons,List.length_append,ih,List.map_cons,List.sum_cons]
theorem wrongL_len (b : Bool) (e a : Int) : (wrongL b e a).length ≤ 1:=by cases b <;> simp [wrongL]
theorem st_len : ∀ (s : St) (n : Int),0 ≤ n → n ≤ 100000 → 0 ≤ s.room n → s.room n + s.tabs.length ≤ n:=by
 refine St.ind fun s i1 i2 i3 n h0 h1 h=>?_
 rw [stRoom_eq] at h ⊢
 split at h
 ·omega
 ·rename_i hx
  rw [if_neg hx]
  have p1:=fold_pos h
  have p2:=fold_pos p1
  have p3:=fold_pos p2
  have p4 : 0 ≤ s.room1 n:=fold_pos p3
  have r:=st1_le s n (by omega) h1
  have e:=exs_le s.exprs (s.room1 n) (by omega) (by omega)
  have b1:=fold_sum (c:=fun x : St=>x.tabs.length) s.body _ (fun x hx m a b c=>i1 x hx m a b c) (by omega) p2
  have b2:=fold_sum (c:=fun x : St=>x.tabs.length) s.els _ (fun x hx m a b c=>i2 x hx m a b c) (by omega) p1
  have b3:=fold_sum (g:=Ar.room) (c:=fun a : Ar=>(St.tabss a.body).length) s.arms _ (fun a ha m h2 h3 h4=>by
   rw [arRoom_eq] at h4 ⊢
   have q1:=fold_pos h4
   have q2:=nameRoom_in q1
   have q3:=nameRoom_in (by omega : 0 ≤ nameRoom a.variant.size m)
   have q4:=fold_sum (c:=fun x : St=>x.tabs.length) a.body _ (fun x hx m a' b c=>i3 a ha x hx m a' b c) (by omega) h4
   rw [tabss_flat,flat_len]
   omega) (by omega) h
  rw [stTabs,List.length_append,List.length_append,List.length_append,tabss_flat,flat_len,tabss_flat,flat_len,flat_len]
  have:=wrongL_len ((s.op != 12) || (s.type.stands && s.type.owned)) 70 s.pos
  omega
theorem it_len {x : It} {n : Int} (h0 : 0 ≤ n) (h1 : n ≤ 20000) (h : 0 ≤ x.room n) : ((St.tabss x.body).length : Int) ≤ 20000:=by
 unfold It.room at h
 have p1 : 0 ≤ roomFold St.room x.body (x.result.room (roomFold Fi.room x.fields (nameRoom x.name.size n))):=by
  rcases Int.lt_or_le (roomFold St.room x.body (x.result.room (roomFold Fi.room x.fields (nameRoom x.name.size n)))) 0 with hn | hn
  ·rw [exRoom_eq] at h
   have:=fold_pos h
   have:=pl_pos this
   have:=nameRoom_in this
   have:=nameRoom_in (by omega : 0 ≤ nameRoom x.ret.name.size (roomFold St.room x.body (x.result.room (roomFold Fi.room x.fields (nameRoom x.name.size n)))))
   omega
  ·exact hn
 have p2:=fold_pos p1
 have p3 : 0 ≤ nameRoom x.result.name.size (roomFold Fi.room x.fields (nameRoom x.name.size n)):=by rw [tyRoom_eq] at p2; exact fold_pos p2
 have p4:=nameRoom_in p3
 have p5:=fold_pos (by omega : 0 ≤ roomFold Fi.room x.fields (nameRoom x.name.size n))
 have p6:=nameRoom_in p5
 have b:=fold_le x.fields _ (fun x _ m a b=>cst_fi x m a b) (by omega : (-6 : Int) ≤ nameRoom x.name.size n) (by omega)
 have c:=cst_ty x.result _ (by omega : (-10 : Int) ≤ roomFold Fi.room x.fields (nameRoom x.name.size n)) (by omega)
 have d:=fold_sum (c:=fun x : St=>x.tabs.length) x.body _ (fun x hx m a b c=>st_len x m a b c) (by omega) p1
 rw [tabss_flat,flat_len]
 omega
theorem its_len (p : List It) (n : Nat) (hf : ∀ x ∈ p,x.fields.length ≤ 20000) (hb : ∀ x ∈ p,(St.tabss x.body).length ≤ 20000) : ∀ l a,(∀ x ∈ l,x ∈ p) → itsTabs p n l = some a → a.length ≤ 50000 * l.length
 | [],a,_,h=>by cases h; simp
 | x :: l,a,hl,h=>by
  unfold itsTabs at h
  split at h
  ·rename_i a1 a2 h1 h2
   cases h
   have i:=its_len p n hf hb l a2 (fun y hy=>hl y (List.mem_cons_of_mem _ hy)) h2
   have e1 : a1.length ≤ 50000:=by
    have hx:=hl x (by simp)
    have b1:=hf x hx
    have b2:=hb x hx
    have t : (tab70 x).length ≤ 40001:=by
     unfold tab70
     rw [List.length_append,List.length_append]
     have:=wrongL_len (x.result.stands && x.result.owned) 70 x.pos
     have : (x.fields.flatMap fun f=>wrongL (f.type.stands && ((x.kind == 3) || f.type.owned)) 70 x.pos).length ≤ x.fields.length:=by
      generalize x.fields = fs
      induction fs with
      | nil=>simp
      | cons f fs ih =>
       rw [List.flatMap_cons,List.length_append,List.length_cons]
       have:=wrongL_len (f.type.stands && ((x.kind == 3) || f.type.owned)) 70 x.pos
       omega
     omega
    unfold It.tabs at h1
    simp only at h1
    split at h1
    ·have h1:=Option.some.inj h1
     rw [← h1]
     unfold tab70 at t
     omega
    ·obtain ⟨r,_,h1⟩:=Option.map_eq_some_iff.1 h1
     rw [← h1,List.length_append]
     have:=wrongL_len (!r.1) 71 x.pos
     unfold tab70 at t
     omega
   rw [List.length_append,List.length_cons]
   omega
  ·cases h
theorem check_len {p : List It} (hg : great p = false) {n : Nat} {a : List Flt} (h : checkT p n = some a) : a.length ≤ 1000000000:=by
 have hp:=pr_sm hg
 have hg : 0 ≤ roomFold It.room p 20000:=by simpa [great] using hg
 have f:=fold_in p 20000 (fun x hx m a b=>cst_it x m a b) (by omega) (by omega) hg
 unfold checkT at h
 split at h
 ·have i:=its_len p n (fun x hx=>(hp.2 x hx).2.1.1) (fun x hx=>by
   obtain ⟨m,m1,m2,m3⟩:=f.2.2 x hx
   have:=it_len m1 (by omega) m3
   omega) p a (fun x hx=>hx) h
  have:=hp.1
  have : 50000 * p.length ≤ 50000 * 20000:=Nat.mul_le_mul_left _ hp.1
  omega
 ·cases h; simp
end Go.Proofs.YtlclonljdagpkaaGreatDoor
