/- A part of the proof. The statement is proved in the claim's last text. -/
import Derived.Test.YtfiohepfohhibaaDoorPMLk
import Derived.Test.YtfiohepfohhibaaDoorPMLt
set_option linter.unusedVariables false
set_option linter.unusedSimpArgs false
set_option maxRecDepth 100000
set_option maxHeartbeats 32000000
namespace Go.Proofs.YtfiohepfohhibaaDoor
open Go.RowKit
def nameRoom (k : Nat) (n : Int) : Int:=if n < 5 then -1 else if (k : Int) > n - 5 then -1 else n - 5 - k
mutual
def Ty.room : Ty → Int → Int
 | .mk _ s l,n=>Ty.roomAll l (nameRoom s.size n)
def Ty.roomAll : List Ty → Int → Int
 | [],n=>n
 | t :: l,n=>if n < 0 then n else Ty.roomAll l (t.room n)
end
theorem room_eq (t : Ty) (n : Int) : t.room n = Ty.roomAll t.args (nameRoom t.name.size n):=by cases t; rfl
def Ty.great (t : Ty) : Bool:=decide (t.room 20000 < 0)
def roomFold {α : Type} (g : α → Int → Int) : List α → Int → Int
 | [],n=>n
 | x :: l,n=>if n < 0 then n else roomFold g l (g x n)
theorem roomFold_neg {α : Type} {g : α → Int → Int} {l : List α} {n : Int} (h : n < 0) : roomFold g l n = n:=by cases l <;> simp [roomFold,h]
theorem roomFold_step {α : Type} {g : α → Int → Int} {l : List α} {q : Nat} {n : Int} (hq : q < l.length) (h : 0 ≤ n) : roomFold g (l.drop q) n = roomFold g (l.drop (q + 1)) (g l[q] n):=by
 rw [List.drop_eq_getElem_cons hq,roomFold,if_neg (by omega)]
theorem roomFold_done {α : Type} {g : α → Int → Int} {l : List α} {q : Nat} {n : Int} (hq : l.length ≤ q) : roomFold g (l.drop q) n = n:=by rw [List.drop_eq_nil_of_le hq]; rfl
def namesRoom (l : List ByteArray) (n : Int) : Int:=roomFold (fun s m=>nameRoom s.size m) l (n - 5)
def Pl.room (p : Pl) (n : Int) : Int:=namesRoom p.path (nameRoom p.name.size n)
mutual
def Ex.room : Ex → Int → Int
 | .mk _ _ nm sc pl al _,n=>Ex.roomAll al (pl.room (nameRoom sc.size (nameRoom nm.size n)))
def Ex.roomAll : List Ex → Int → Int
 | [],n=>n
 | t :: l,n=>if n < 0 then n else Ex.roomAll l (t.room n)
end
theorem exRoomAll (l : List Ex) : ∀ n,Ex.roomAll l n = roomFold Ex.room l n:=by
 induction l with
 | nil=>intro n; rfl
 | cons t l ih=>intro n; simp [Ex.roomAll,roomFold,ih]
theorem exRoom_eq (e : Ex) (n : Int) : e.room n = roomFold Ex.room e.args (e.place.room (nameRoom e.second.size (nameRoom e.name.size n))):=by cases e; simp only [Ex.room,exRoomAll]; rfl
mutual
def St.room : St → Int → Int
 | .mk _ nm sc nms ty _ pl exs body els arms _,n =>
  if roomFold Ex.room exs (pl.room (ty.room (namesRoom nms (nameRoom sc.size (nameRoom nm.size n))))) < 0 then roomFold Ex.room exs (pl.room (ty.room (namesRoom nms (nameRoom sc.size (nameRoom nm.size n)))))
  else Ar.roomAll arms (St.roomAll els (St.roomAll body (roomFold Ex.room exs (pl.room (ty.room (namesRoom nms (nameRoom sc.size (nameRoom nm.size n))))))))
def St.roomAll : List St → Int → Int
 | [],n=>n
 | t :: l,n=>if n < 0 then n else St.roomAll l (t.room n)
def Ar.roomAll : List (ArOf St) → Int → Int
 | [],n=>n
 | ⟨v,nm,b⟩ :: l,n=>if n < 0 then n else Ar.roomAll l (St.roomAll b (nameRoom nm.size (nameRoom v.size n)))
end
def Ar.room (a : Ar) (n : Int) : Int:=St.roomAll a.body (nameRoom a.name.size (nameRoom a.variant.size n))
theorem stRoomAll (l : List St) : ∀ n,St.roomAll l n = roomFold St.room l n:=by
 induction l with
 | nil=>intro n; rfl
 | cons t l ih=>intro n; simp [St.roomAll,roomFold,ih]
theorem arRoomAll (l : List Ar) : ∀ n,Ar.roomAll l n = roomFold Ar.room l n:=by
 induction l with
 | nil=>intro n; rfl
 | cons t l ih=>intro n; obtain ⟨v,nm,b⟩:=t; simp [Ar.roomAll,roomFold,Ar.room,ih]
def St.room1 (s : St) (n : Int) : Int:=s.place.room (s.type.room (namesRoom s.names (nameRoom s.second.size (nameRoom s.name.size n))))
theorem stRoom_eq (s : St) (n : Int) : s.room n = if roomFold Ex.room s.exprs (s.room1 n) < 0 then roomFold Ex.room s.exprs (s.room1 n) else
  roomFold Ar.room s.arms (roomFold St.room s.els (roomFold St.room s.body (roomFold Ex.room s.exprs (s.room1 n)))):=by
 cases s; simp only [St.room,stRoomAll,arRoomAll]; rfl
def Fi.room (x : Fi) (n : Int) : Int:=x.type.room (nameRoom x.name.size n)
theorem arRoom_eq (a : Ar) (n : Int) : a.room n = roomFold St.room a.body (nameRoom a.name.size (nameRoom a.variant.size n)):=stRoomAll _ _
def It.room (x : It) (n : Int) : Int:=x.ret.room (roomFold St.room x.body (x.result.room (roomFold Fi.room x.fields (nameRoom x.name.size n))))
def great (p : List It) : Bool:=decide (roomFold It.room p 20000 < 0)
end Go.Proofs.YtfiohepfohhibaaDoor
namespace Go.Proofs.YtfiohepfohhibaaDoor
open Go.RowKit
theorem wr {n : Int} (h : -1000000 ≤ n ∧ n ≤ 1000000:=by omega) : IntKind.i64.wrap n = n:=IntWalk.i64_in _ (by omega)
def Bd (lo : Int) (g : Int → Int) : Prop:=∀ n,lo ≤ n → n ≤ 100000 → -6 ≤ g n ∧ g n ≤ 100000
theorem tyRoomAll (l : List Ty) : ∀ n,Ty.roomAll l n = roomFold Ty.room l n:=by
 induction l with
 | nil=>intro n; rfl
 | cons t l ih=>intro n; simp [Ty.roomAll,roomFold,ih]
theorem tyRoom_eq (t : Ty) (n : Int) : t.room n = roomFold Ty.room t.args (nameRoom t.name.size n):=by rw [room_eq,tyRoomAll]
def Rnd {α : Type} (g : α → Int → Int) (l : List α) (tot : Int) (x : Nat × Int) : Prop:=x.1 ≤ l.length ∧ -6 ≤ x.2 ∧ x.2 ≤ 100000 ∧ roomFold g (l.drop x.1) x.2 = tot
theorem Rnd.next {α : Type} {g : α → Int → Int} {l : List α} {tot : Int} {q : Nat} {m : Int} (h : Rnd g l tot (q,m)) (hq : q < l.length) (hm : 0 ≤ m) (hb : Bd (-6) (g l[q])) : Rnd g l tot (q + 1,g l[q] m):=by
 obtain ⟨_,h1,h2,h3⟩:=h
 have:=hb m h1 h2
 exact ⟨hq,this.1,this.2,by rw [← h3]; exact (roomFold_step hq hm).symm⟩
theorem Rnd.neg {α : Type} {g : α → Int → Int} {l : List α} {tot : Int} {q : Nat} {m : Int} (h : Rnd g l tot (q,m)) (hm : m < 0) : m = tot:=by rw [← h.2.2.2]; exact (roomFold_neg hm).symm
theorem Rnd.done {α : Type} {g : α → Int → Int} {l : List α} {tot : Int} {q : Nat} {m : Int} (h : Rnd g l tot (q,m)) (hq : ¬ q < l.length) : m = tot:=by rw [← h.2.2.2]; exact (roomFold_done (by omega)).symm
theorem Rnd.start {α : Type} {g : α → Int → Int} {l : List α} {n : Int} (h1 : -6 ≤ n) (h2 : n ≤ 100000) : Rnd g l (roomFold g l n) (0,n):=⟨Nat.zero_le _,h1,h2,rfl⟩
end Go.Proofs.YtfiohepfohhibaaDoor
namespace Go.Proofs.YtfiohepfohhibaaDoor
open Go.RowKit
end Go.Proofs.YtfiohepfohhibaaDoor
namespace Go.Proofs.YtfiohepfohhibaaDoor
open Go.RowKit
end Go.Proofs.YtfiohepfohhibaaDoor
namespace Go.Proofs.YtfiohepfohhibaaDoor
open Go.RowKit
inductive TySm : Ty → Prop
 | mk (t : Ty) : t.name.size ≤ 20000 → t.args.length ≤ 20000 → (∀ x ∈ t.args,TySm x) → TySm t
def NmSm (l : List ByteArray) : Prop:=l.length ≤ 20000 ∧ ∀ s ∈ l,s.size ≤ 20000
def PlSm (x : Pl) : Prop:=x.name.size ≤ 20000 ∧ NmSm x.path
inductive ExSm : Ex → Prop
 | mk (e : Ex) : e.name.size ≤ 20000 → e.second.size ≤ 20000 → PlSm e.place → e.args.length ≤ 20000 → (∀ x ∈ e.args,ExSm x) → ExSm e
def ExsSm (l : List Ex) : Prop:=l.length ≤ 20000 ∧ ∀ x ∈ l,ExSm x
inductive StSm : St → Prop
 | mk (s : St) : s.name.size ≤ 20000 → s.second.size ≤ 20000 → NmSm s.names → TySm s.type → PlSm s.place → ExsSm s.exprs → s.body.length ≤ 20000 → s.els.length ≤ 20000 → s.arms.length ≤ 20000 →
  (∀ x ∈ s.body,StSm x) → (∀ x ∈ s.els,StSm x) → (∀ a ∈ s.arms,a.variant.size ≤ 20000 ∧ a.name.size ≤ 20000 ∧ a.body.length ≤ 20000) → (∀ a ∈ s.arms,∀ x ∈ a.body,StSm x) → StSm s
def StsSm (l : List St) : Prop:=l.length ≤ 20000 ∧ ∀ x ∈ l,StSm x
def FiSm (x : Fi) : Prop:=x.name.size ≤ 20000 ∧ TySm x.type
def FisSm (l : List Fi) : Prop:=l.length ≤ 20000 ∧ ∀ x ∈ l,FiSm x
def ItSm (x : It) : Prop:=x.name.size ≤ 20000 ∧ FisSm x.fields ∧ TySm x.result ∧ StsSm x.body ∧ ExSm x.ret
def PrSm (p : List It) : Prop:=p.length ≤ 20000 ∧ ∀ x ∈ p,ItSm x
theorem fold_in {α : Type} {g : α → Int → Int} : ∀ (l : List α) (n : Int),(∀ x ∈ l,∀ m,-6 ≤ m → m ≤ 100000 → -6 ≤ g x m ∧ (g x m ≤ m - 5 ∨ g x m < 0)) → -6 ≤ n → n ≤ 100000 → 0 ≤ roomFold g l n → (5 * (l.length : Int) ≤ n) ∧ roomFold g l n ≤ n ∧ ∀ x ∈ l,∃ m,0 ≤ m ∧ m ≤ n ∧ 0 ≤ g x m
 | [],n,h,h1,h2,h3=>by
  unfold roomFold at h3
  exact ⟨by simpa using h3,by simp [roomFold],fun x hx=>by simp at hx⟩
 | x :: l,n,h,h1,h2,h3=>by
  unfold roomFold at h3
  split at h3
  ·omega
  ·rename_i hn
   have hx:=h x (by simp) n h1 h2
   have hpos : 0 ≤ g x n:=by
    rcases Int.lt_or_le (g x n) 0 with hg | hg
    ·rw [roomFold_neg hg] at h3; omega
    ·exact hg
   obtain ⟨i1,i2,i3⟩:=fold_in l (g x n) (fun y hy=>h y (by simp [hy])) hx.1 (by omega) h3
   refine ⟨by simp only [List.length_cons]; omega,by unfold roomFold; rw [if_neg hn]; omega,fun y hy=>?_⟩
   rcases List.mem_cons.1 hy with rfl | hy
   ·exact ⟨n,by omega,by omega,hpos⟩
   ·obtain ⟨m,m1,m2,m3⟩:=i3 y hy
    exact ⟨m,m1,by omega,m3⟩
theorem fold_pos {α : Type} {g : α → Int → Int} {l : List α} {n : Int} (h : 0 ≤ roomFold g l n) : 0 ≤ n:=by
 rcases Int.lt_or_le n 0 with hn | hn
 ·rw [roomFold_neg hn] at h; omega
 ·exact hn
theorem fold_le {α : Type} {g : α → Int → Int} : ∀ (l : List α) (n : Int),(∀ x ∈ l,∀ m,-6 ≤ m → m ≤ 100000 → -6 ≤ g x m ∧ (g x m ≤ m - 5 ∨ g x m < 0)) → -6 ≤ n → n ≤ 100000 → -6 ≤ roomFold g l n ∧ (roomFold g l n ≤ n ∨ roomFold g l n < 0)
 | [],n,h,h1,h2=>⟨h1,.inl (Int.le_refl _)⟩
 | x :: l,n,h,h1,h2=>by
  unfold roomFold
  split
  ·omega
  ·have hx:=h x (by simp) n h1 h2
   have:=fold_le l (g x n) (fun y hy=>h y (by simp [hy])) hx.1 (by omega)
   omega
theorem nameRoom_in {k : Nat} {n : Int} (h : 0 ≤ nameRoom k n) : (k : Int) + 5 ≤ n ∧ nameRoom k n = n - 5 - k:=by
 unfold nameRoom at h ⊢
 split at h
 ·omega
 ·split at h
  ·omega
  ·rename_i h1 h2; rw [if_neg h1,if_neg h2]; omega
theorem nameRoom_cost (k : Nat) (n : Int) (h : -10 ≤ n) : -1 ≤ nameRoom k n ∧ (nameRoom k n ≤ n - 5 ∨ nameRoom k n < 0):=by
 unfold nameRoom; split <;> (try split) <;> omega
def Cst (g : Int → Int) : Prop:=∀ m,-10 ≤ m → m ≤ 100000 → -6 ≤ g m ∧ (g m ≤ m - 5 ∨ g m < 0)
theorem cst_ty : ∀ (t : Ty),Cst t.room:=by
 refine Ty.ind fun t ih n h1 h2=>?_
 rw [tyRoom_eq]
 have a:=nameRoom_cost t.name.size n h1
 have:=fold_le t.args _ (fun x hx m a b=>ih x hx m (by omega) b) (by omega : (-6 : Int) ≤ nameRoom t.name.size n) (by omega)
 omega
theorem names_le (l : List ByteArray) (n : Int) (h1 : -1 ≤ n) (h2 : n ≤ 100000) : -6 ≤ namesRoom l n ∧ (namesRoom l n ≤ n ∨ namesRoom l n < 0):=by
 have:=fold_le l (n - 5) (g:=fun s m=>nameRoom s.size m) (fun x hx m a b=>by have:=nameRoom_cost x.size m (by omega); omega) (by omega) (by omega)
 unfold namesRoom
 omega
theorem cst_pl (x : Pl) : Cst x.room:=fun n h1 h2=>by
 have a:=nameRoom_cost x.name.size n h1
 have:=names_le x.path (nameRoom x.name.size n) a.1 (by omega)
 unfold Pl.room
 omega
theorem cst_ex : ∀ (e : Ex),Cst e.room:=by
 refine Ex.ind fun e ih n h1 h2=>?_
 rw [exRoom_eq]
 have a:=nameRoom_cost e.name.size n h1
 have b:=nameRoom_cost e.second.size (nameRoom e.name.size n) (by omega)
 have c:=cst_pl e.place _ (by omega : (-10 : Int) ≤ nameRoom e.second.size (nameRoom e.name.size n)) (by omega)
 have:=fold_le e.args _ (fun x hx m a b=>ih x hx m (by omega) b) c.1 (by omega)
 omega
theorem ty_sm : ∀ (t : Ty) (n : Int),-10 ≤ n → n ≤ 20000 → 0 ≤ t.room n → TySm t:=by
 refine Ty.ind fun t ih n h1 h2 h=>?_
 rw [tyRoom_eq] at h
 have hp:=fold_pos h
 have a:=nameRoom_in hp
 have f:=fold_in t.args _ (fun x hx m a b=>cst_ty x m (by omega) b) (by omega) (by omega) h
 exact .mk t (by omega) (by omega) fun x hx=>by
  obtain ⟨m,m1,m2,m3⟩:=f.2.2 x hx
  exact ih x hx m (by omega) (by omega) m3
theorem nm_sm {l : List ByteArray} {n : Int} (h1 : -1 ≤ n) (h2 : n ≤ 20000) (h : 0 ≤ namesRoom l n) : NmSm l:=by
 have f:=fold_in l (n - 5) (g:=fun s m=>nameRoom s.size m) (fun x hx m a b=>by have:=nameRoom_cost x.size m (by omega); omega) (by omega) (by omega) h
 exact ⟨by omega,fun s hs=>by
  obtain ⟨m,m1,m2,m3⟩:=f.2.2 s hs
  have:=nameRoom_in m3
  omega⟩
theorem names_pos {l : List ByteArray} {n : Int} (h : 0 ≤ namesRoom l n) : 0 ≤ n:=by have:=fold_pos h; omega
theorem pl_sm {x : Pl} {n : Int} (h2 : n ≤ 20000) (h : 0 ≤ x.room n) : PlSm x:=by
 have hp:=names_pos h
 have a:=nameRoom_in hp
 exact ⟨by omega,nm_sm (by omega) (by omega) h⟩
theorem pl_pos {x : Pl} {n : Int} (h : 0 ≤ x.room n) : 0 ≤ n:=by
 have a:=nameRoom_in (names_pos h)
 omega
theorem ex_sm : ∀ (e : Ex) (n : Int),-10 ≤ n → n ≤ 20000 → 0 ≤ e.room n → ExSm e:=by
 refine Ex.ind fun e ih n h1 h2 h=>?_
 rw [exRoom_eq] at h
 have hp:=fold_pos h
 have hq:=pl_pos hp
 have b:=nameRoom_in hq
 have a:=nameRoom_in (by omega : 0 ≤ nameRoom e.name.size n)
 have c:=cst_pl e.place _ (by omega : (-10 : Int) ≤ nameRoom e.second.size (nameRoom e.name.size n)) (by omega)
 have f:=fold_in e.args _ (fun x hx m a b=>cst_ex x m (by omega) b) c.1 (by omega) h
 exact .mk e (by omega) (by omega) (pl_sm (by omega) hp) (by omega) fun x hx=>by
  obtain ⟨m,m1,m2,m3⟩:=f.2.2 x hx
  exact ih x hx m (by omega) (by omega) m3
theorem exs_sm {l : List Ex} {n : Int} (h1 : -6 ≤ n) (h2 : n ≤ 20000) (h : 0 ≤ roomFold Ex.room l n) : ExsSm l:=by
 have f:=fold_in l n (fun x hx m a b=>cst_ex x m (by omega) b) h1 (by omega) h
 exact ⟨by omega,fun x hx=>by
  obtain ⟨m,m1,m2,m3⟩:=f.2.2 x hx
  exact ex_sm x m (by omega) (by omega) m3⟩
theorem st1_le (s : St) (n : Int) (h1 : -10 ≤ n) (h2 : n ≤ 100000) : -6 ≤ s.room1 n ∧ (s.room1 n ≤ n - 5 ∨ s.room1 n < 0):=by
 have a:=nameRoom_cost s.name.size n h1
 have b:=nameRoom_cost s.second.size (nameRoom s.name.size n) (by omega)
 have c:=names_le s.names (nameRoom s.second.size (nameRoom s.name.size n)) (by omega) (by omega)
 have d:=cst_ty s.type _ (by omega : (-10 : Int) ≤ namesRoom s.names (nameRoom s.second.size (nameRoom s.name.size n))) (by omega)
 have e:=cst_pl s.place _ (by omega : (-10 : Int) ≤ s.type.room (namesRoom s.names (nameRoom s.second.size (nameRoom s.name.size n)))) (by omega)
 unfold St.room1
 omega
theorem exs_le (l : List Ex) (n : Int) (h1 : -6 ≤ n) (h2 : n ≤ 100000) : -6 ≤ roomFold Ex.room l n ∧ (roomFold Ex.room l n ≤ n ∨ roomFold Ex.room l n < 0):=fold_le l n (fun x _ m a b=>cst_ex x m (by omega) b) h1 h2
theorem cst_st : ∀ (s : St),Cst s.room:=by
 refine St.ind fun s ih1 ih2 ih3 n h1 h2=>?_
 rw [stRoom_eq]
 have a:=st1_le s n h1 h2
 have b:=exs_le s.exprs (s.room1 n) a.1 (by omega)
 split
 ·omega
 have c:=fold_le s.body _ (fun x hx m a b=>ih1 x hx m (by omega) b) b.1 (by omega)
 have d:=fold_le s.els _ (fun x hx m a b=>ih2 x hx m (by omega) b) c.1 (by omega)
 have e:=fold_le (g:=Ar.room) s.arms _ (fun x hx m a b=>by
  rw [arRoom_eq]
  have e:=nameRoom_cost x.variant.size m (by omega)
  have f:=nameRoom_cost x.name.size (nameRoom x.variant.size m) (by omega)
  have:=fold_le x.body _ (fun y hy m a b=>ih3 x hx y hy m (by omega) b) (by omega : (-6 : Int) ≤ nameRoom x.name.size (nameRoom x.variant.size m)) (by omega)
  omega) d.1 (by omega)
 omega
theorem sts_le (l : List St) (n : Int) (h1 : -6 ≤ n) (h2 : n ≤ 100000) : -6 ≤ roomFold St.room l n ∧ (roomFold St.room l n ≤ n ∨ roomFold St.room l n < 0):=fold_le l n (fun x _ m a b=>cst_st x m (by omega) b) h1 h2
theorem cst_ar (x : Ar) (m : Int) (a : -6 ≤ m) (b : m ≤ 100000) : -6 ≤ x.room m ∧ (x.room m ≤ m - 5 ∨ x.room m < 0):=by
 rw [arRoom_eq]
 have e:=nameRoom_cost x.variant.size m (by omega)
 have f:=nameRoom_cost x.name.size (nameRoom x.variant.size m) (by omega)
 have:=sts_le x.body _ (by omega : (-6 : Int) ≤ nameRoom x.name.size (nameRoom x.variant.size m)) (by omega)
 omega
theorem st_sm : ∀ (s : St) (n : Int),-10 ≤ n → n ≤ 20000 → 0 ≤ s.room n → StSm s:=by
 refine St.ind fun s ih1 ih2 ih3 n h1 h2 h=>?_
 rw [stRoom_eq] at h
 split at h
 ·omega
 rename_i hx
 have a:=st1_le s n h1 (by omega)
 have hx : 0 ≤ roomFold Ex.room s.exprs (s.room1 n):=by omega
 have h0:=fold_pos hx
 have hp:=pl_pos h0
 have b1:=exs_le s.exprs (s.room1 n) a.1 (by omega)
 have c1:=sts_le s.body _ b1.1 (by omega)
 have d1:=sts_le s.els _ c1.1 (by omega)
 have fA:=fold_in s.arms _ (fun x _ m a b=>cst_ar x m a b) d1.1 (by omega) h
 have hE:=fold_pos h
 have fE:=fold_in s.els _ (fun x _ m a b=>cst_st x m (by omega) b) c1.1 (by omega) hE
 have hB:=fold_pos hE
 have fB:=fold_in s.body _ (fun x _ m a b=>cst_st x m (by omega) b) b1.1 (by omega) hB
 have n1:=nameRoom_cost s.name.size n h1
 have n2:=nameRoom_cost s.second.size (nameRoom s.name.size n) (by omega)
 have n3:=names_le s.names (nameRoom s.second.size (nameRoom s.name.size n)) (by omega) (by omega)
 have n4:=cst_ty s.type _ (by omega : (-10 : Int) ≤ namesRoom s.names (nameRoom s.second.size (nameRoom s.name.size n))) (by omega)
 have tp : 0 ≤ namesRoom s.names (nameRoom s.second.size (nameRoom s.name.size n)):=by
  have:=hp
  rw [tyRoom_eq] at this
  have:=nameRoom_in (fold_pos this)
  omega
 have np:=names_pos tp
 have k2:=nameRoom_in np
 have k1:=nameRoom_in (by omega : 0 ≤ nameRoom s.name.size n)
 refine .mk s (by omega) (by omega) (nm_sm (by omega) (by omega) tp) (ty_sm _ _ (by omega) (by omega) hp) (pl_sm (by omega) h0) (exs_sm a.1 (by omega) hx) (by omega) (by omega) (by omega) (fun x hx=>?_) (fun x hx=>?_) (fun x hx=>?_) (fun x hx y hy=>?_)
 ·obtain ⟨m,m1,m2,m3⟩:=fB.2.2 x hx
  exact ih1 x hx m (by omega) (by omega) m3
 ·obtain ⟨m,m1,m2,m3⟩:=fE.2.2 x hx
  exact ih2 x hx m (by omega) (by omega) m3
 ·obtain ⟨m,m1,m2,m3⟩:=fA.2.2 x hx
  rw [arRoom_eq] at m3
  have k2:=nameRoom_in (fold_pos m3)
  have k1:=nameRoom_in (by omega : 0 ≤ nameRoom x.variant.size m)
  have f:=fold_in x.body _ (fun x _ m a b=>cst_st x m (by omega) b) (by omega) (by omega) m3
  exact ⟨by omega,by omega,by omega⟩
 ·obtain ⟨m,m1,m2,m3⟩:=fA.2.2 x hx
  rw [arRoom_eq] at m3
  have k2:=nameRoom_in (fold_pos m3)
  have k1:=nameRoom_in (by omega : 0 ≤ nameRoom x.variant.size m)
  have f:=fold_in x.body _ (fun x _ m a b=>cst_st x m (by omega) b) (by omega) (by omega) m3
  obtain ⟨i,i1,i2,i3⟩:=f.2.2 y hy
  exact ih3 x hx y hy i (by omega) (by omega) i3
theorem sts_sm {l : List St} {n : Int} (h1 : -6 ≤ n) (h2 : n ≤ 20000) (h : 0 ≤ roomFold St.room l n) : StsSm l:=by
 have f:=fold_in l n (fun x hx m a b=>cst_st x m (by omega) b) h1 (by omega) h
 exact ⟨by omega,fun x hx=>by
  obtain ⟨m,m1,m2,m3⟩:=f.2.2 x hx
  exact st_sm x m (by omega) (by omega) m3⟩
theorem cst_fi (x : Fi) (n : Int) (h1 : -6 ≤ n) (h2 : n ≤ 100000) : -6 ≤ x.room n ∧ (x.room n ≤ n - 5 ∨ x.room n < 0):=by
 have a:=nameRoom_cost x.name.size n (by omega)
 have b:=cst_ty x.type (nameRoom x.name.size n) (by omega) (by omega)
 unfold Fi.room
 omega
theorem fis_sm {l : List Fi} {n : Int} (h1 : -6 ≤ n) (h2 : n ≤ 20000) (h : 0 ≤ roomFold Fi.room l n) : FisSm l:=by
 have f:=fold_in l n (fun x hx m a b=>cst_fi x m a b) h1 (by omega) h
 exact ⟨by omega,fun x hx=>by
  obtain ⟨m,m1,m2,m3⟩:=f.2.2 x hx
  have e:=nameRoom_cost x.name.size m (by omega)
  refine ⟨?_,ty_sm _ _ (by omega) (by omega) m3⟩
  unfold Fi.room at m3
  rw [tyRoom_eq] at m3
  have:=nameRoom_in (fold_pos m3)
  have:=nameRoom_in (by omega : 0 ≤ nameRoom x.name.size m)
  omega⟩
theorem cst_it (x : It) (n : Int) (h1 : -6 ≤ n) (h2 : n ≤ 100000) : -6 ≤ x.room n ∧ (x.room n ≤ n - 5 ∨ x.room n < 0):=by
 have a:=nameRoom_cost x.name.size n (by omega)
 have b:=fold_le x.fields _ (fun x _ m a b=>cst_fi x m a b) (by omega : (-6 : Int) ≤ nameRoom x.name.size n) (by omega)
 have c:=cst_ty x.result _ (by omega : (-10 : Int) ≤ roomFold Fi.room x.fields (nameRoom x.name.size n)) (by omega)
 have d:=sts_le x.body _ c.1 (by omega)
 have e:=cst_ex x.ret _ (by omega : (-10 : Int) ≤ roomFold St.room x.body (x.result.room (roomFold Fi.room x.fields (nameRoom x.name.size n)))) (by omega)
 unfold It.room
 omega
theorem pr_sm {p : List It} (h : great p = false) : PrSm p:=by
 have h : 0 ≤ roomFold It.room p 20000:=by simpa [great] using h
 have f:=fold_in p 20000 (fun x hx m a b=>cst_it x m a b) (by omega) (by omega) h
 refine ⟨by omega,fun x hx=>?_⟩
 obtain ⟨n,h1,h2,h3⟩:=f.2.2 x hx
 have a:=nameRoom_cost x.name.size n (by omega)
 have b:=fold_le x.fields _ (fun x _ m a b=>cst_fi x m a b) (by omega : (-6 : Int) ≤ nameRoom x.name.size n) (by omega)
 have c:=cst_ty x.result _ (by omega : (-10 : Int) ≤ roomFold Fi.room x.fields (nameRoom x.name.size n)) (by omega)
 have d:=sts_le x.body _ c.1 (by omega)
 have e3 : 0 ≤ roomFold St.room x.body (x.result.room (roomFold Fi.room x.fields (nameRoom x.name.size n))):=by
  have:=h3
  unfold It.room at this
  rw [exRoom_eq] at this
  have k2:=nameRoom_in (pl_pos (fold_pos this))
  have k1:=nameRoom_in (by omega : 0 ≤ nameRoom x.ret.name.size (roomFold St.room x.body (x.result.room (roomFold Fi.room x.fields (nameRoom x.name.size n)))))
  omega
 have e2:=fold_pos e3
 have e1 : 0 ≤ roomFold Fi.room x.fields (nameRoom x.name.size n):=by
  have:=e2
  rw [tyRoom_eq] at this
  have:=nameRoom_in (fold_pos this)
  omega
 have k:=nameRoom_in (fold_pos e1)
 exact ⟨by omega,fis_sm (by omega) (by omega) e1,ty_sm _ _ (by omega) (by omega) e2,sts_sm c.1 (by omega) e3,ex_sm _ _ (by omega) (by omega) h3⟩
end Go.Proofs.YtfiohepfohhibaaDoor
