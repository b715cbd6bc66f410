/- A part of the proof. The statement is proved in the claim's last text. -/
import Derived.Test.YthohopjnpgbljaaGreatDoorXMPt
import Derived.Test.YthohopjnpgbljaaGreatDoorXMSh
import Derived.Test.YthohopjnpgbljaaGreatDoorXMWp
set_option linter.unusedVariables false
set_option linter.unusedSimpArgs false
set_option maxRecDepth 100000
set_option maxHeartbeats 32000000
namespace Go.Proofs.YthohopjnpgbljaaGreatDoor
open Go.RowKit
theorem allUp_pair {α : Type} {p : α → Bool} {l : List α} {m : Int} (h : allUp p l m = true) : (l.length : Int) ≤ m ∧ ∀ x ∈ l,p x = true:=by
 unfold allUp at h
 simp only [Bool.and_eq_true,decide_eq_true_eq] at h
 refine ⟨h.1,fun x hx=>?_⟩
 rw [List.take_of_length_le (by omega)] at h
 exact List.all_eq_true.1 h.2 x hx
def kindT (t : ByteArray) : Int:=if wordB t = true then 1 else if nameB t = true then 2 else if typeB t = true then 3 else if (match t.data.toList with | b :: _=>digitB b.toNat | []=>false) = true then 4 else 5
def Kinds (l : List Tok) : Prop:=∀ x ∈ l,x.kind = kindT x.text
structure AtR (l : List Tok) (s : RS) (ts : List ByteArray) : Prop where
 ok : s.bad = false
 tx : (l.drop s.at_).map Tok.text = ts
abbrev RS.nx (s : RS) : RS:=⟨s.at_ + 1,s.bad,s.full⟩
section
variable {l : List Tok} {s : RS} {t v : ByteArray} {ts : List ByteArray}
theorem AtR.get (h : AtR l s (t :: ts)) : ∃ x,l[s.at_]? = some x ∧ x.text = t ∧ x ∈ l:=by
 have h1:=congrArg (·[0]?) h.tx
 simp only [List.getElem?_map,List.getElem?_drop,Nat.add_zero,List.getElem?_cons_zero] at h1
 obtain ⟨x,hx,h2⟩:=Option.map_eq_some_iff.1 h1
 exact ⟨x,hx,h2,List.mem_of_getElem? hx⟩
theorem AtR.get1 (h : AtR l s (t :: v :: ts)) : ∃ x,l[s.at_ + 1]? = some x ∧ x.text = v:=by
 have h1:=congrArg (·[1]?) h.tx
 simp only [List.getElem?_map,List.getElem?_drop,List.getElem?_cons_succ,List.getElem?_cons_zero] at h1
 obtain ⟨x,hx,h2⟩:=Option.map_eq_some_iff.1 h1
 exact ⟨x,hx,h2⟩
theorem AtR.gone (h : AtR l s []) (k : Nat) : l[s.at_ + k]? = (none : Option Tok):=by
 have h1:=congrArg (·[k]?) h.tx
 simpa using h1
theorem AtR.gone1 (h : AtR l s [t]) : l[s.at_ + 1]? = (none : Option Tok):=by
 have h1:=congrArg (·[1]?) h.tx
 simpa using h1
theorem AtR.next (h : AtR l s (t :: ts)) : AtR l s.nx ts:=by
 refine ⟨h.ok,?_⟩
 have h1:=congrArg List.tail h.tx
 simp only [List.tail_cons] at h1
 rw [← h1,← List.map_tail,List.tail_drop]
theorem AtR.is (h : AtR l s (t :: ts)) (u : ByteArray) : isP l s u 0 = sEq t u:=by
 obtain ⟨x,hx,rfl,_⟩:=h.get
 unfold isP
 rw [h.ok,Nat.add_zero,hx]; rfl
theorem AtR.is_nil (h : AtR l s []) (u : ByteArray) (k : Nat) : isP l s u k = false:=by
 unfold isP
 rw [h.gone k,Bool.and_false]
theorem AtR.is1 (h : AtR l s (t :: v :: ts)) (u : ByteArray) : isP l s u 1 = sEq v u:=by
 obtain ⟨x,hx,rfl⟩:=h.get1
 unfold isP
 rw [h.ok,hx]; rfl
theorem AtR.is1_nil (h : AtR l s [t]) (u : ByteArray) : isP l s u 1 = false:=by
 unfold isP
 rw [h.gone1,Bool.and_false]
theorem AtR.may (h : AtR l s (t :: ts)) : mayP l s t = s.nx:=by
 unfold mayP
 rw [h.is t,sEq_self,if_pos rfl]
theorem AtR.mayN (h : AtR l s (t :: ts)) {u : ByteArray} (hu : sEq t u = false) : mayP l s u = s:=by
 unfold mayP
 rw [h.is u,hu,if_neg (by simp)]
theorem AtR.must (h : AtR l s (t :: ts)) : mustP l s [t] = s.nx:=by
 unfold mustP mustP
 rw [h.may,h.is t,sEq_self]
 have:=h.ok
 obtain ⟨a,b,c⟩:=s
 simp only at this
 subst this; rfl
theorem AtR.hand (hk : Kinds l) (h : AtR l s (t :: ts)) (k : Int) : handP l s k = (kindT t == k):=by
 obtain ⟨x,hx,rfl,hm⟩:=h.get
 unfold handP
 rw [h.ok,hx]
 show (!false && (x.kind == k)) = _
 rw [hk x hm]; rfl
theorem AtR.takeT (hk : Kinds l) (h : AtR l s (t :: ts)) {k : Int} (e : kindT t = k) : takeT l s k = t:=by
 obtain ⟨x,hx,rfl,hm⟩:=h.get
 unfold Proofs.YthohopjnpgbljaaGreatDoor.takeT
 rw [h.hand hk k,e,beq_self_eq_true,if_pos rfl,hx]
theorem AtR.takeP (hk : Kinds l) (h : AtR l s (t :: ts)) {k : Int} (e : kindT t = k) : takeP l s k = s.nx:=by
 unfold Proofs.YthohopjnpgbljaaGreatDoor.takeP
 rw [h.hand hk k,e,beq_self_eq_true,if_pos rfl]
end
theorem ne_kind {t u : ByteArray} (h : kindT t ≠ kindT u) : sEq t u = false:=by
 cases hs : sEq t u with
 | false=>rfl
 | true=>exact absurd (by rw [sEq_iff.1 hs]) h
theorem named_word {p : Int → Bool} {t : ByteArray} (h : namedB p t = true) : wordB t = false:=by
 unfold namedB at h
 split at h
 ·simp only [Bool.and_eq_true] at h
  simpa using h.2.2.2
 ·cases h
theorem kind_name {t : ByteArray} (h : nameB t = true) : kindT t = 2:=by
 unfold kindT
 rw [named_word h,if_neg (by simp),if_pos h]
theorem type_not {t : ByteArray} (h : typeB t = true) : nameB t = false:=by
 cases hn : nameB t with
 | false=>rfl
 | true =>
  unfold typeB namedB at h
  unfold nameB namedB at hn
  split at h
  ·rename_i h0
   rw [dif_pos h0] at hn
   simp only [Bool.and_eq_true,upperB,lowerB,decide_eq_true_eq] at h hn
   omega
  ·cases h
theorem kind_type {t : ByteArray} (h : typeB t = true) : kindT t = 3:=by
 unfold kindT
 rw [named_word h,if_neg (by simp),type_not h,if_neg (by simp),if_pos h]
def noDot (r : List ByteArray) : Prop:=∀ t ts,r = t :: ts → sEq t (⟨#[46]⟩ : ByteArray) = false
def Rd {α β : Type} (l : List Tok) (f : RS → Option (α × RS)) (key : α → β) (tk r : List ByteArray) (x : β) : Prop:=∀ s,AtR l s (tk ++ r) → ∃ y s',f s = some (y,s') ∧ AtR l s' r ∧ s'.full = s.full ∧ key y = x
theorem path_rd {l : List Tok} (hk : Kinds l) : ∀ (p : List ByteArray),(∀ x ∈ p,stepB x = true) → ∀ (r : List ByteArray),noDot r → ∀ (n : Nat) (acc : List ByteArray) (s : RS),p.length < n → AtR l s (pathTk p ++ r) → ∃ s',pathL l n acc s = some (acc ++ p,s') ∧ AtR l s' r ∧ s'.full = s.full
 | [],_,r,hr,0,acc,s,hn,h=>by omega
 | [],_,r,hr,n + 1,acc,s,hn,h=>by
  have h0 : AtR l s r:=h
  have hi : isP l s (⟨#[46]⟩ : ByteArray) 0 = false:=by
   cases r with
   | nil=>exact h0.is_nil _ _
   | cons t ts=>rw [h0.is]; exact hr t ts rfl
  refine ⟨s,?_,h0,rfl⟩
  rw [pathL,hi,if_neg (by simp),List.append_nil]
 | x :: p,hp,r,hr,0,acc,s,hn,h=>by omega
 | x :: p,hp,r,hr,n + 1,acc,s,hn,h=>by
  have h0 : AtR l s ((⟨#[46]⟩ : ByteArray) :: x :: (pathTk p ++ r)):=h
  have h1:=h0.next
  have h2:=h1.next
  have hx:=hp x (List.mem_cons_self ..)
  have hp':=fun y hy=>hp y (List.mem_cons_of_mem _ hy)
  rw [pathL,h0.is,sEq_self,if_pos rfl]
  simp only
  rw [h0.may,h1.is]
  unfold stepB at hx
  rw [Bool.or_eq_true] at hx
  rcases hx with hx | hx
  ·have e:=sEq_iff.1 hx
   subst e
   rw [sEq_self,if_pos rfl,h1.may]
   obtain ⟨s',e1,e2,e3⟩:=path_rd hk p hp' r hr n (acc ++ [starS]) s.nx.nx (by simp at hn; omega) h2
   refine ⟨s',?_,e2,e3⟩
   rw [show (acc ++ starS :: p) = acc ++ [starS] ++ p by simp]
   exact e1
  ·have hn2 : sEq x (⟨#[42]⟩ : ByteArray) = false:=ne_kind (by rw [kind_name hx]; decide)
   rw [hn2,if_neg (by simp),h1.takeT hk (kind_name hx),h1.takeP hk (kind_name hx)]
   obtain ⟨s',e1,e2,e3⟩:=path_rd hk p hp' r hr n (acc ++ [x]) s.nx.nx (by simp at hn; omega) h2
   refine ⟨s',?_,e2,e3⟩
   rw [e1,List.append_assoc]; rfl
theorem place_rd {l : List Tok} (hk : Kinds l) {x : Pl} (hx : x.whole = true) {r : List ByteArray} (hr : noDot r) {n : Nat} (hn : x.path.length < n) : Rd l (pathP l n) id x.tk r x:=fun s h=>by
 unfold Pl.whole at hx
 simp only [Bool.and_eq_true] at hx
 have h0 : AtR l s (x.name :: (pathTk x.path ++ r)):=h
 have hkn:=kind_name hx.1
 obtain ⟨s',e1,e2,e3⟩:=path_rd hk x.path (allUp_pair hx.2).2 r hr n [] s.nx hn h0.next
 refine ⟨x,s',?_,e2,e3,rfl⟩
 unfold pathP
 rw [h0.takeP hk hkn,h0.takeT hk hkn,e1]
 rfl
theorem listL_rd {α β : Type} {l : List Tok} {f : RS → Option (α × RS)} {key : α → β} {e : ByteArray} (he : sEq e (⟨#[44]⟩ : ByteArray) = false) (r : List ByteArray) : ∀ (xs : List (List ByteArray × β)),(∀ x ∈ xs,∀ r0,(∃ t,r0 = (⟨#[44]⟩ : ByteArray) :: t ∨ r0 = e :: t) → Rd l f key x.1 r0 x.2) → ∀ (n : Nat) (acc : List α) (s : RS),xs.length < n → AtR l s ((xs.flatMap fun x=>(⟨#[44]⟩ : ByteArray) :: x.1) ++ e :: r) →
  ∃ ys s',listL l f n acc s = some (acc ++ ys,s') ∧ AtR l s' (e :: r) ∧ s'.full = s.full ∧ ys.map key = xs.map Prod.snd
 | [],_,0,acc,s,hn,h=>by omega
 | [],_,n + 1,acc,s,hn,h=>by
  have h0 : AtR l s (e :: r):=h
  refine ⟨[],s,?_,h0,rfl,rfl⟩
  rw [listL,h0.is,he,if_neg (by simp),List.append_nil]
 | x :: xs,hx,0,acc,s,hn,h=>by omega
 | x :: xs,hx,n + 1,acc,s,hn,h=>by
  have h0 : AtR l s ((⟨#[44]⟩ : ByteArray) :: (x.1 ++ ((xs.flatMap fun x=>(⟨#[44]⟩ : ByteArray) :: x.1) ++ e :: r))):=by
   have:=h
   simpa [List.append_assoc] using this
  have hsep : ∃ t,((xs.flatMap fun x=>(⟨#[44]⟩ : ByteArray) :: x.1) ++ e :: r) = (⟨#[44]⟩ : ByteArray) :: t ∨ ((xs.flatMap fun x=>(⟨#[44]⟩ : ByteArray) :: x.1) ++ e :: r) = e :: t:=by
   cases xs with
   | nil=>exact ⟨r,.inr rfl⟩
   | cons y ys=>exact ⟨_,.inl rfl⟩
  obtain ⟨y,s1,e1,e2,e3,e4⟩:=hx x (List.mem_cons_self ..) _ hsep s.nx h0.next
  obtain ⟨ys,s2,k1,k2,k3,k4⟩:=listL_rd he r xs (fun z hz=>hx z (List.mem_cons_of_mem _ hz)) n (acc ++ [y]) s1 (by simp at hn; omega) e2
  refine ⟨y :: ys,s2,?_,k2,k3.trans e3,by rw [List.map_cons,e4,k4]; rfl⟩
  rw [listL,h0.is,sEq_self,if_pos rfl,h0.may,e1]
  simp only
  rw [k1,List.append_assoc]; rfl
theorem list_rd {α β : Type} {l : List Tok} {f : RS → Option (α × RS)} {key : α → β} {e : ByteArray} (he : sEq e (⟨#[44]⟩ : ByteArray) = false) (r : List ByteArray) (xs : List (List ByteArray × β)) (hx : ∀ x ∈ xs,∀ r0,(∃ t,r0 = (⟨#[44]⟩ : ByteArray) :: t ∨ r0 = e :: t) → Rd l f key x.1 r0 x.2) (h1 : ∀ x ∈ xs,∃ t ts,x.1 = t :: ts ∧ sEq t e = false) (h6 : xs.length ≤ 6) {n : Nat} (hn : xs.length < n) :
  Rd l (listP l f e n) (List.map key) (commas (xs.map Prod.fst) ++ [e]) r (xs.map Prod.snd):=fun s h=>by
 have hl : ∀ (a : List α),a.map key = xs.map Prod.snd → decide (6 < a.length) = false:=fun a ha=>by
  have:=congrArg List.length ha
  simp at this
  simp; omega
 cases xs with
 | nil =>
  have h0 : AtR l s (e :: r):=h
  refine ⟨[],s.nx,?_,h0.next,rfl,rfl⟩
  unfold listP
  rw [h0.is,sEq_self,if_pos rfl,h0.may]
 | cons x xs =>
  have hm : commas ((x :: xs).map Prod.fst) = x.1 ++ (xs.flatMap fun x=>(⟨#[44]⟩ : ByteArray) :: x.1):=by
   simp [commas,List.flatMap_map]
  have h0 : AtR l s (x.1 ++ ((xs.flatMap fun x=>(⟨#[44]⟩ : ByteArray) :: x.1) ++ e :: r)):=by
   have:=h
   rw [hm] at this
   simpa [List.append_assoc] using this
  have hsep : ∃ t,((xs.flatMap fun x=>(⟨#[44]⟩ : ByteArray) :: x.1) ++ e :: r) = (⟨#[44]⟩ : ByteArray) :: t ∨ ((xs.flatMap fun x=>(⟨#[44]⟩ : ByteArray) :: x.1) ++ e :: r) = e :: t:=by
   cases xs with
   | nil=>exact ⟨r,.inr rfl⟩
   | cons y ys=>exact ⟨_,.inl rfl⟩
  obtain ⟨t,ts,ht,hte⟩:=h1 x (List.mem_cons_self ..)
  have hi : isP l s e 0 = false:=by
   have h2:=h0
   rw [ht] at h2
   rw [AtR.is (ts:=ts ++ ((xs.flatMap fun x=>(⟨#[44]⟩ : ByteArray) :: x.1) ++ e :: r)) h2,hte]
  obtain ⟨y,s1,e1,e2,e3,e4⟩:=hx x (List.mem_cons_self ..) _ hsep s h0
  obtain ⟨ys,s2,k1,k2,k3,k4⟩:=listL_rd he r xs (fun z hz=>hx z (List.mem_cons_of_mem _ hz)) n [y] s1 (by simp at hn; omega) e2
  have hkey : (y :: ys).map key = (x :: xs).map Prod.snd:=by rw [List.map_cons,e4,k4]; rfl
  refine ⟨y :: ys,s2.nx,?_,k2.next,k3.trans e3,hkey⟩
  unfold listP
  rw [hi,if_neg (by simp),e1]
  simp only
  rw [k1]
  simp only [Option.map_some,List.cons_append,List.nil_append]
  rw [k2.must]
  unfold fewP
  rw [hl _ hkey,Bool.or_false]
end Go.Proofs.YthohopjnpgbljaaGreatDoor
namespace Go.Proofs.YthohopjnpgbljaaGreatDoor
open Go.RowKit
abbrev keyE : Ex → Ex:=Ex.atm fun _=>0
def okR (k : Nat) (r : List ByteArray) : Prop:=∀ t ts,r = t :: ts → (∀ k',k ≤ k' → findK t (signsK k') = none) ∧ sEq t (⟨#[46]⟩ : ByteArray) = false ∧ sEq t (⟨#[40]⟩ : ByteArray) = false
theorem okR.dot {k : Nat} {r : List ByteArray} (h : okR k r) : noDot r:=fun t ts e=>(h t ts e).2.1
theorem okR.up {k k' : Nat} {r : List ByteArray} (h : okR k r) (hk : k ≤ k') : okR k' r:=fun t ts e=>⟨fun q hq=>(h t ts e).1 q (by omega),(h t ts e).2⟩
theorem okR_cons {k : Nat} {t : ByteArray} {ts : List ByteArray} (h : ∀ k',k ≤ k' → findK t (signsK k') = none) (h1 : sEq t (⟨#[46]⟩ : ByteArray) = false) (h2 : sEq t (⟨#[40]⟩ : ByteArray) = false) : okR k (t :: ts):=fun a b e=>by cases e; exact ⟨h,h1,h2⟩
theorem signs6 (t : ByteArray) {k : Nat} (h : 6 ≤ k) : findK t (signsK k) = none:=by
 unfold signsK
 split <;> first | omega | rfl
theorem signsQ_stop {l : List Tok} {rd : RS → Option (Ex × RS)} {k n : Nat} {y : Ex} {s : RS} {r : List ByteArray} (h : AtR l s r) (hr : ∀ t ts,r = t :: ts → findK t (signsK k) = none) (hn : 0 < n) : signsQ l rd k n y s = some (y,s):=by
 obtain ⟨m,rfl⟩ : ∃ m,n = m + 1:=⟨n - 1,by omega⟩
 rw [signsQ,if_neg (by rw [h.ok]; simp)]
 cases r with
 | nil=>rw [show l[s.at_]? = none from by have:=h.gone 0; simpa using this]
 | cons t ts =>
  obtain ⟨x,hx,rfl,_⟩:=h.get
  rw [hx]
  simp only
  rw [hr _ _ rfl]
theorem strong_up {l : List Tok} {n j : Nat} {t : ByteArray} {ts r : List ByteArray} {x : Ex} (hnot : j = 3 → sEq t (⟨#[110,111,116]⟩ : ByteArray) = false) (hr : ∀ t ts,r = t :: ts → findK t (signsK (5 - j)) = none) (hn : 0 < n) (h : Rd l (strongQ l n j) keyE (t :: ts) r x) : Rd l (strongQ l (n + 1) (j + 1)) keyE (t :: ts) r x:=fun s hs=>by
 obtain ⟨y,s',e1,e2,e3,e4⟩:=h s hs
 refine ⟨y,s',?_,e2,e3,e4⟩
 have hs' : AtR l s (t :: (ts ++ r)):=hs
 rw [strongQ,if_neg (by rw [hs.ok]; simp),if_neg (fun hc=>by rw [hs'.is,hnot hc.1] at hc; simp at hc),e1]
 exact signsQ_stop e2 hr hn
theorem strong_upTo {l : List Tok} {t : ByteArray} {ts r : List ByteArray} {x : Ex} {j : Nat} : ∀ (d n : Nat),j + d ≤ 6 → (∀ j',j ≤ j' → j' < j + d → j' = 3 → sEq t (⟨#[110,111,116]⟩ : ByteArray) = false) → okR (6 - (j + d)) r → 0 < n → Rd l (strongQ l n j) keyE (t :: ts) r x → Rd l (strongQ l (n + d) (j + d)) keyE (t :: ts) r x
 | 0,n,_,_,_,_,h=>h
 | d + 1,n,hj,hnot,hr,hn,h=>by
  have h1:=strong_upTo d n (by omega) (fun j' a b=>hnot j' a (by omega)) (hr.up (by omega)) hn h
  have h2 : 6 - (j + (d + 1)) = 5 - (j + d):=by omega
  rw [h2] at hr
  exact strong_up (hnot (j + d) (by omega) (by omega)) (fun a b e=>(hr a b e).1 _ (Nat.le_refl _)) (Nat.lt_of_lt_of_le hn (Nat.le_add_right _ _)) h1
theorem strong_0 {l : List Tok} {n : Nat} {t : ByteArray} {ts r : List ByteArray} {x : Ex} (hm : sEq t (⟨#[45]⟩ : ByteArray) = false) (h : Rd l (simpleQ l n (strongQ l n 6)) keyE (t :: ts) r x) : Rd l (strongQ l (n + 1) 0) keyE (t :: ts) r x:=fun s hs=>by
 obtain ⟨y,s',e1,e2,e3,e4⟩:=h s hs
 refine ⟨y,s',?_,e2,e3,e4⟩
 have hs' : AtR l s (t :: (ts ++ r)):=hs
 rw [strongQ,if_neg (by rw [hs.ok]; simp),if_neg (by rw [hs'.is,hm]; simp)]
 exact e1
theorem paren_rd {l : List Tok} (hk : Kinds l) {n : Nat} {rd : RS → Option (Ex × RS)} {t : ByteArray} {ts r : List ByteArray} {x : Ex} (ht : sEq t (⟨#[41]⟩ : ByteArray) = false) (h : Rd l rd keyE (t :: ts) ((⟨#[41]⟩ : ByteArray) :: r) x) : Rd l (simpleQ l n rd) keyE ((⟨#[40]⟩ : ByteArray) :: ((t :: ts) ++ [(⟨#[41]⟩ : ByteArray)])) r x:=fun s hs=>by
 have h0 : AtR l s ((⟨#[40]⟩ : ByteArray) :: ((t :: ts) ++ (⟨#[41]⟩ : ByteArray) :: r)):=by
  have:=hs
  simpa [List.append_assoc] using this
 obtain ⟨y,s',e1,e2,e3,e4⟩:=h s.nx h0.next
 have h1 : AtR l s.nx (t :: (ts ++ (⟨#[41]⟩ : ByteArray) :: r)):=h0.next
 obtain ⟨a,ha,hat,ham⟩:=h0.get
 have hkk : a.kind = 5:=by rw [hk a ham,hat]; kernel_rfl
 refine ⟨y,s'.nx,?_,e2.next,e3,e4⟩
 unfold simpleQ
 rw [if_neg (by rw [hs.ok]; simp),ha]
 simp only
 rw [hkk,if_neg (by decide),if_neg (by decide),if_neg (by decide),hat,show findK (⟨#[40]⟩ : ByteArray) callK = none by kernel_rfl]
 simp only
 rw [h0.is,h0.is,show sEq (⟨#[40]⟩ : ByteArray) (⟨#[116,114,117,101]⟩ : ByteArray) = false by kernel_rfl,show sEq (⟨#[40]⟩ : ByteArray) (⟨#[102,97,108,115,101]⟩ : ByteArray) = false by kernel_rfl,if_neg (by simp),if_neg (by simp),h0.must,h1.is,ht,if_neg (by simp),e1]
 simp only [Option.map_some]
 rw [e2.must]
end Go.Proofs.YthohopjnpgbljaaGreatDoor
namespace Go.Proofs.YthohopjnpgbljaaGreatDoor
open Go.RowKit
theorem digitsN_end (L : List UInt8) (d : UInt8) : digitsN (L ++ [d]) = digitsN L * 10 + (d.toNat - 48):=by
 unfold digitsN
 rw [List.foldl_append]; rfl
def DigB (L : List UInt8) : Prop:=L ≠ [] ∧ (∀ b ∈ L,digitB b.toNat = true)
theorem dig_byte {d : Nat} (h : d < 10) : (UInt8.ofNat (48 + d)).toNat = 48 + d:=by
 rw [UInt8.toNat_ofNat']; omega
theorem itoa_bytes : ∀ (m : Nat),DigB (itoaB (m : Int)).data.toList ∧ digitsN (itoaB (m : Int)).data.toList = m ∧ ∀ k,m < 10 ^ (k + 1) → (itoaB (m : Int)).data.toList.length ≤ k + 1:=by
 intro m
 induction m using Nat.strongRecOn with
 | _ m ih =>
 by_cases h10 : m < 10
 ·rw [itoa_one (by omega) (by omega)]
  have e : (48 + (m : Int)).toNat = 48 + m:=by omega
  rw [e]
  refine ⟨⟨by simp,fun b hb=>?_⟩,?_,fun k _=>by simp⟩
  ·have : b = UInt8.ofNat (48 + m):=by simpa using hb
   subst this
   rw [dig_byte h10]; unfold digitB; simp; omega
  ·show digitsN [UInt8.ofNat (48 + m)] = m
   unfold digitsN
   simp only [List.foldl_cons,List.foldl_nil,dig_byte h10]
   omega
 ·have e1 : (m : Int).tdiv 10 = ((m / 10 : Nat) : Int):=(tdiv_pos10 (a:=(m : Int)) (by omega)).1
  have e2 : (m : Int).tmod 10 = ((m % 10 : Nat) : Int):=(tdiv_pos10 (a:=(m : Int)) (by omega)).2
  have hlt : m % 10 < 10:=Nat.mod_lt _ (by decide)
  rw [itoa_more (by omega),e1,e2]
  have e3 : (48 + ((m % 10 : Nat) : Int)).toNat = 48 + m % 10:=by omega
  rw [e3]
  obtain ⟨⟨i1,i2⟩,i3,i4⟩:=ih (m / 10) (by omega)
  have e4 : (itoaB ((m / 10 : Nat) : Int) ++ (⟨#[UInt8.ofNat (48 + m % 10)]⟩ : ByteArray)).data.toList = (itoaB ((m / 10 : Nat) : Int)).data.toList ++ [UInt8.ofNat (48 + m % 10)]:=by simp
  rw [e4]
  refine ⟨⟨by simp,fun b hb=>?_⟩,?_,fun k hk=>?_⟩
  ·rw [List.mem_append] at hb
   rcases hb with hb | hb
   ·exact i2 b hb
   ·have : b = UInt8.ofNat (48 + m % 10):=by simpa using hb
    subst this
    rw [dig_byte hlt]; unfold digitB; simp; omega
  ·rw [digitsN_end,i3,dig_byte hlt]; omega
  ·rw [List.length_append]
   cases k with
   | zero=>simp at hk; omega
   | succ k =>
    have:=i4 k (by rw [Nat.pow_succ] at hk; omega)
    simp only [List.length_cons,List.length_nil]
    omega
theorem itoa_num {n : Int} (h : 0 ≤ n) (h2 : n < 9223372036854775808) : numT (itoaB n) = some n:=by
 obtain ⟨m,rfl⟩ : ∃ m : Nat,n = m:=⟨n.toNat,by omega⟩
 obtain ⟨⟨i1,i2⟩,i3,i4⟩:=itoa_bytes m
 have hl:=i4 18 (by omega)
 have hs : (itoaB (m : Int)).size = (itoaB (m : Int)).data.toList.length:=by simp
 have h0 : 0 < (itoaB (m : Int)).data.toList.length:=List.length_pos_iff.2 i1
 unfold numT
 rw [if_pos ⟨by omega,by omega,by rw [List.all_eq_true]; exact i2,by rw [i3]; omega⟩,i3]
theorem itoa_kind {n : Int} (h : 0 ≤ n) : kindT (itoaB n) = 4:=by
 obtain ⟨m,rfl⟩ : ∃ m : Nat,n = m:=⟨n.toNat,by omega⟩
 obtain ⟨⟨i1,i2⟩,_⟩:=itoa_bytes m
 generalize itoaB (m : Int) = t at *
 obtain ⟨b,L,hL⟩:=List.exists_cons_of_ne_nil i1
 have hb:=i2 b (by rw [hL]; exact List.mem_cons_self ..)
 have hd : 48 ≤ b.toNat ∧ b.toNat ≤ 57:=by unfold digitB at hb; simp at hb; omega
 have h0 : ∀ (hs : 0 < t.size),t[0].toNat = b.toNat:=fun hs=>by
  have : t[0] = b:=by
   have e : t.data.toList[0]? = some b:=by rw [hL]; rfl
   have e2 : t.data.toList[0]? = some t[0]:=by
    rw [List.getElem?_eq_getElem (by simpa using hs)]; rfl
   rw [e] at e2
   exact (Option.some.inj e2).symm
  rw [this]
 have hw : wordB t = false:=by
  unfold wordB
  rw [decide_eq_false_iff_not,hL]
  intro hm
  have h1 : ∀ w ∈ words,57 < (w.headD 0).toNat:=by decide
  have h2 : 57 < b.toNat:=h1 _ hm
  omega
 have hn : ∀ p : Int → Bool,(∀ c : Nat,48 ≤ c → c ≤ 57 → p c = false) → namedB p t = false:=fun p hp=>by
  unfold namedB
  split
  ·rename_i hs
   rw [h0 hs,hp _ hd.1 hd.2]; simp
  ·rfl
 unfold kindT
 rw [hw,if_neg (by simp),show nameB t = false from hn _ (fun c a b=>by unfold lowerB; simp; omega),if_neg (by simp),show typeB t = false from hn _ (fun c a b=>by unfold upperB; simp; omega),if_neg (by simp),hL]
 exact if_pos hb
end Go.Proofs.YthohopjnpgbljaaGreatDoor
namespace Go.Proofs.YthohopjnpgbljaaGreatDoor
open Go.RowKit
structure ExF (e : Ex) : Prop where
 op : 1 ≤ e.op ∧ e.op ≤ 36
 lab : labB e.op e.int e.name e.second = true
 low : shL e.op ≤ e.args.length
 high : (e.args.length : Int) ≤ shM e.op
 pl : placedB e.op e.place e.args.length (shP e.op) = true
 args : ∀ a ∈ e.args,(e.op = 18 ∨ lentOp a.op = false) ∧ ∃ d,a.whole d = true
theorem ex_facts {e : Ex} {d : Int} (h : e.whole d = true) : ExF e:=by
 rw [exWhole_eq] at h
 simp only [Bool.and_eq_true] at h
 obtain ⟨_,h2,h3⟩:=h
 unfold exHead at h2
 simp only [Bool.and_eq_true,decide_eq_true_eq] at h2
 obtain ⟨k1,k2,k3,k4⟩:=h2
 obtain ⟨m1,m2⟩:=allUp_pair h3
 unfold shO at k1
 simp only [Bool.and_eq_true,decide_eq_true_eq] at k1
 refine ⟨k1,k2,k3,m1,k4,fun a ha=>?_⟩
 have:=m2 a ha
 simp only [Bool.and_eq_true,Bool.or_eq_true,beq_iff_eq,Bool.not_eq_true'] at this
 exact ⟨this.1,d - 1,this.2⟩
def inL (t : ByteArray) (l : List ByteArray) : Bool:=l.any fun u=>sEq t u
def headL : List ByteArray:=[(⟨#[40]⟩ : ByteArray),(⟨#[116,114,117,101]⟩ : ByteArray),(⟨#[102,97,108,115,101]⟩ : ByteArray),(⟨#[45]⟩ : ByteArray),(⟨#[110,111,116]⟩ : ByteArray),(⟨#[38]⟩ : ByteArray),(⟨#[98,111,120]⟩ : ByteArray),(⟨#[117,110,98,111,120]⟩ : ByteArray),(⟨#[99,101,108,108]⟩ : ByteArray),(⟨#[103,101,116]⟩ : ByteArray),(⟨#[115,101,116]⟩ : ByteArray),(⟨#[114,99]⟩ : ByteArray),(⟨#[97,114,99]⟩ : ByteArray),(⟨#[99,108,111,110,101]⟩ : ByteArray),(⟨#[109,117,116,101,120]⟩ : ByteArray),(⟨#[111,112,101,110]⟩ : ByteArray),(⟨#[97,116,111,109,105,99]⟩ : ByteArray),(⟨#[108,111,97,100]⟩ : ByteArray),(⟨#[115,116,111,114,101]⟩ : ByteArray),(⟨#[102,101,116,99,104]⟩ : ByteArray),(⟨#[115,101,110,100]⟩ : ByteArray),(⟨#[114,101,99,118]⟩ : ByteArray)]
def wordsL : List ByteArray:=[(⟨#[98,111,120]⟩ : ByteArray),(⟨#[117,110,98,111,120]⟩ : ByteArray),(⟨#[99,101,108,108]⟩ : ByteArray),(⟨#[103,101,116]⟩ : ByteArray),(⟨#[115,101,116]⟩ : ByteArray),(⟨#[114,99]⟩ : ByteArray),(⟨#[97,114,99]⟩ : ByteArray),(⟨#[99,108,111,110,101]⟩ : ByteArray),(⟨#[109,117,116,101,120]⟩ : ByteArray),(⟨#[111,112,101,110]⟩ : ByteArray),(⟨#[97,116,111,109,105,99]⟩ : ByteArray),(⟨#[108,111,97,100]⟩ : ByteArray),(⟨#[115,116,111,114,101]⟩ : ByteArray),(⟨#[102,101,116,99,104]⟩ : ByteArray),(⟨#[115,101,110,100]⟩ : ByteArray),(⟨#[114,101,99,118]⟩ : ByteArray)]
theorem wordL_mem (op : Int) : inL (wordL op) wordsL = true:=by
 have key : ∀ (c : Prop) [Decidable c] (a b : ByteArray),inL a wordsL = true → inL b wordsL = true → inL (if c then a else b) wordsL = true:=fun c _ a b ha hb=>by
  by_cases h : c
  ·rw [if_pos h]; exact ha
  ·rw [if_neg h]; exact hb
 unfold wordL
 repeat' refine key _ _ _ (by kernel_rfl) ?_
 kernel_rfl
structure ExHd (e : Ex) (t : ByteArray) : Prop where
 sort : kindT t = 2 ∨ kindT t = 3 ∨ kindT t = 4 ∨ inL t headL = true
 no : 3 ≤ signI e.op → sEq t (⟨#[110,111,116]⟩ : ByteArray) = false
 mi : signI e.op = 7 → sEq t (⟨#[45]⟩ : ByteArray) = false
 am : lentOp e.op = false → sEq t (⟨#[38]⟩ : ByteArray) = false
theorem hd_kind {e : Ex} {t : ByteArray} (h : kindT t = 2 ∨ kindT t = 3 ∨ kindT t = 4) : ExHd e t :=
 ⟨by omega,fun _=>ne_kind (by rw [show kindT (⟨#[110,111,116]⟩ : ByteArray) = 1 by kernel_rfl]; omega),fun _=>ne_kind (by rw [show kindT (⟨#[45]⟩ : ByteArray) = 5 by kernel_rfl]; omega),fun _=>ne_kind (by rw [show kindT (⟨#[38]⟩ : ByteArray) = 5 by kernel_rfl]; omega)⟩
theorem headL_ok (h : List ByteArray) (u : ByteArray) (hd : h.all (fun t=>!sEq t u) = true) {t : ByteArray} (ht : inL t h = true) : sEq t u = false:=by
 obtain ⟨v,hv,hs⟩:=List.any_eq_true.1 ht
 have:=List.all_eq_true.1 hd v hv
 rw [sEq_iff.1 hs]
 simpa using this
theorem in_app (t : ByteArray) (a b : List ByteArray) : inL t (a ++ b) = (inL t a || inL t b):=List.any_append
theorem words_sub {t : ByteArray} (h : inL t wordsL = true) : inL t headL = true:=by
 have : headL = [(⟨#[40]⟩ : ByteArray),(⟨#[116,114,117,101]⟩ : ByteArray),(⟨#[102,97,108,115,101]⟩ : ByteArray),(⟨#[45]⟩ : ByteArray),(⟨#[110,111,116]⟩ : ByteArray),(⟨#[38]⟩ : ByteArray)] ++ wordsL:=rfl
 rw [this,in_app,h,Bool.or_true]
def lowL : List ByteArray:=[(⟨#[40]⟩ : ByteArray),(⟨#[116,114,117,101]⟩ : ByteArray),(⟨#[102,97,108,115,101]⟩ : ByteArray)]
theorem low_sub {t : ByteArray} (h : inL t lowL = true) : inL t headL = true:=by
 have : headL = [(⟨#[40]⟩ : ByteArray),(⟨#[116,114,117,101]⟩ : ByteArray),(⟨#[102,97,108,115,101]⟩ : ByteArray)] ++ ([(⟨#[45]⟩ : ByteArray),(⟨#[110,111,116]⟩ : ByteArray),(⟨#[38]⟩ : ByteArray)] ++ wordsL):=rfl
 rw [this,in_app,show inL t [(⟨#[40]⟩ : ByteArray),(⟨#[116,114,117,101]⟩ : ByteArray),(⟨#[102,97,108,115,101]⟩ : ByteArray)] = true from h,Bool.true_or]
theorem sign_not7 {op : Int} : signI op < 7 ↔ 7 ≤ op ∧ op ≤ 17:=by
 unfold signI
 repeat' split
 all_goals omega
theorem ex_head : ∀ (e : Ex),(∃ d,e.whole d = true) → ∃ t ts,e.tk = t :: ts ∧ ExHd e t:=by
 intro e
 induction e using Ex.ind with
 | h e ih =>
 rintro ⟨d,hd⟩
 have hF:=ex_facts hd
 rw [exTk_eq]
 unfold exTk1
 by_cases hs : signI e.op < 7
 ·rw [if_pos hs]
  have h7:=sign_not7.1 hs
  have hlent : lentOp e.op = false:=by unfold lentOp; simp; omega
  match ha : e.args with
  | [] =>
   exfalso
   have h1:=hF.low
   rw [ha] at h1
   unfold shL at h1
   repeat' split at h1
   all_goals simp at h1
   all_goals omega
  | [a] =>
   refine ⟨signB e.op,_,rfl,?_⟩
   have hop : e.op = 7 ∨ e.op = 8:=by
    have h1:=hF.low
    rw [ha] at h1
    unfold shL at h1
    repeat' split at h1
    all_goals simp at h1
    all_goals omega
   rcases hop with h | h
   ·rw [h]
    exact ⟨.inr (.inr (.inr (by kernel_rfl))),fun _=>by kernel_rfl,fun hh=>by rw [h] at hh; exact absurd hh (by decide),fun _=>by kernel_rfl⟩
   ·rw [h]
    exact ⟨.inr (.inr (.inr (by kernel_rfl))),fun hh=>by rw [h] at hh; exact absurd hh (by decide),fun _=>by kernel_rfl,fun _=>by kernel_rfl⟩
  | a :: b :: r =>
   obtain ⟨hal,haw⟩:=hF.args a (by rw [ha]; exact List.mem_cons_self ..)
   obtain ⟨t,ts,ht,h1,h2,h3,h4⟩:=ih a (by rw [ha]; exact List.mem_cons_self ..) haw
   simp only [List.map_cons]
   generalize parTk b.op (signI e.op + 1) b.tk = B
   unfold parTk
   by_cases hp : signI a.op < (if signI e.op = 3 then 4 else signI e.op)
   ·rw [if_pos hp]
    refine ⟨(⟨#[40]⟩ : ByteArray),_,rfl,.inr (.inr (.inr (by kernel_rfl))),fun _=>by kernel_rfl,fun _=>by kernel_rfl,fun _=>by kernel_rfl⟩
   ·rw [if_neg hp,ht]
    refine ⟨t,_,rfl,h1,fun h3'=>h2 ?_,fun hh=>by omega,fun _=>h4 ?_⟩
    ·split at hp <;> omega
    ·rcases hal with h | h
     ·omega
     ·exact h
 ·rw [if_neg hs]
  have hn : ¬ (7 ≤ e.op ∧ e.op ≤ 17):=fun h=>hs (sign_not7.2 h)
  have hl:=hF.lab
  have hp:=hF.pl
  unfold labB at hl
  simp only [Bool.and_eq_true] at hl
  have hmem : ∀ {t : ByteArray},inL t (lowL ++ wordsL) = true → ExHd e t:=fun {t} ht=>by
   refine ⟨.inr (.inr (.inr ?_)),fun _=>headL_ok _ _ (by kernel_rfl) ht,fun _=>headL_ok _ _ (by kernel_rfl) ht,fun _=>headL_ok _ _ (by kernel_rfl) ht⟩
   rw [in_app,Bool.or_eq_true] at ht
   exact ht.elim low_sub words_sub
  by_cases h1 : e.op = 1
  ·rw [if_pos h1]
   refine ⟨_,_,rfl,hd_kind (.inr (.inr (itoa_kind ?_)))⟩
   have:=hl.2
   rw [if_pos h1] at this
   simpa using this
  rw [if_neg h1]
  by_cases h2 : e.op = 2
  ·rw [if_pos h2]
   refine ⟨_,_,rfl,?_⟩
   split
   ·exact hmem (by kernel_rfl)
   ·exact hmem (by kernel_rfl)
  rw [if_neg h2]
  by_cases h3 : e.op = 3
  ·rw [if_pos h3]
   exact ⟨_,_,rfl,hmem (by kernel_rfl)⟩
  rw [if_neg h3]
  have hpn : shP e.op = true → nameB e.place.name = true:=fun hh=>by
   rw [hh] at hp
   unfold placedB Pl.whole at hp
   simp only [if_true,Bool.and_eq_true] at hp
   exact hp.1
  by_cases h4 : e.op = 4
  ·rw [if_pos h4]
   exact ⟨_,_,rfl,hd_kind (.inl (kind_name (hpn (by rw [h4]; rfl))))⟩
  rw [if_neg h4]
  have ham : lentOp e.op = true → ExHd e (⟨#[38]⟩ : ByteArray):=fun hh=>⟨.inr (.inr (.inr (by kernel_rfl))),fun _=>by kernel_rfl,fun _=>by kernel_rfl,fun h=>by rw [hh] at h; cases h⟩
  by_cases h5 : e.op = 5
  ·rw [if_pos h5]
   exact ⟨_,_,rfl,ham (by rw [h5]; rfl)⟩
  rw [if_neg h5]
  by_cases h6 : e.op = 6
  ·rw [if_pos h6]
   exact ⟨_,_,rfl,ham (by rw [h6]; rfl)⟩
  rw [if_neg h6]
  by_cases h18 : e.op = 18
  ·rw [if_pos h18]
   refine ⟨_,_,rfl,hd_kind (.inl (kind_name ?_))⟩
   have:=hl.1.1
   rwa [if_pos h18] at this
  rw [if_neg h18]
  by_cases h19 : e.op = 19
  ·rw [if_pos h19]
   refine ⟨_,_,rfl,hd_kind (.inr (.inl (kind_type ?_)))⟩
   have:=hl.1.1
   rwa [if_neg h18,if_pos (.inl h19)] at this
  rw [if_neg h19]
  by_cases h20 : e.op = 20
  ·rw [if_pos h20]
   refine ⟨_,_,rfl,hd_kind (.inr (.inl (kind_type ?_)))⟩
   have:=hl.1.1
   rwa [if_neg h18,if_pos (.inr h20)] at this
  rw [if_neg h20]
  exact ⟨_,_,rfl,hmem (by rw [in_app,wordL_mem,Bool.or_true])⟩
theorem ExHd.ne {e : Ex} {t u : ByteArray} (h : ExHd e t) (hk : kindT u ≠ 2 ∧ kindT u ≠ 3 ∧ kindT u ≠ 4) (hu : headL.all (fun t=>!sEq t u) = true) : sEq t u = false:=by
 rcases h.sort with h1 | h1 | h1 | h1
 ·exact ne_kind (by omega)
 ·exact ne_kind (by omega)
 ·exact ne_kind (by omega)
 ·exact headL_ok _ _ hu h1
end Go.Proofs.YthohopjnpgbljaaGreatDoor
namespace Go.Proofs.YthohopjnpgbljaaGreatDoor
open Go.RowKit
def Eb (l : List Tok) (a : Ex) : Prop:=∀ n,10 * a.tk.length + 6 ≤ n → ∀ r,okR 0 r → Rd l (strongQ l n 6) keyE a.tk r (keyE a)
theorem key_mk (op i : Int) (n s : ByteArray) (p : Pl) (l : List Ex) (a : Int) : keyE (.mk op i n s p l a) = .mk op i n s p (l.map keyE) 0:=by
 show Ex.atm _ _ = _
 rw [Ex.atm,exAtms]
theorem key_of {e : Ex} {op i : Int} {n s : ByteArray} {p : Pl} (h1 : e.op = op) (h2 : e.int = i) (h3 : e.name = n) (h4 : e.second = s) (h5 : e.place = p) : keyE e = .mk op i n s p (e.args.map keyE) 0:=by
 subst h1 h2 h3 h4 h5
 exact exAtm _ e
theorem simple_eq {l : List Tok} (hk : Kinds l) {n : Nat} {rd : RS → Option (Ex × RS)} {s : RS} {t : ByteArray} {ts : List ByteArray} (h : AtR l s (t :: ts)) : ∃ pos : Int,simpleQ l n rd s = (
  if kindT t = 4 then (numT t).map fun v=>(ex0 1 v emS [] pos,s.nx)
  else if kindT t = 3 then upperQ l n rd pos s
  else if kindT t = 2 then
   if isP l s (⟨#[40]⟩ : ByteArray) 1 = true then (listP l (lentQ l n rd) (⟨#[41]⟩ : ByteArray) n (mustP l (takeP l s 2) [(⟨#[40]⟩ : ByteArray)])).map fun r=>(ex0 18 0 (takeT l s 2) r.1 pos,r.2)
   else (pathP l n s).map fun r=>(.mk 4 0 emS emS r.1 [] pos,r.2)
  else match findK t callK with
   | some op=>calledQ l n rd op pos s.nx
   | none =>
    if isP l s (⟨#[116,114,117,101]⟩ : ByteArray) 0 = true then some (ex0 2 1 emS [] pos,mayP l s (⟨#[116,114,117,101]⟩ : ByteArray))
    else if isP l s (⟨#[102,97,108,115,101]⟩ : ByteArray) 0 = true then some (ex0 2 0 emS [] pos,mayP l s (⟨#[102,97,108,115,101]⟩ : ByteArray))
    else if isP l (mustP l s [(⟨#[40]⟩ : ByteArray)]) (⟨#[41]⟩ : ByteArray) 0 = true then some (ex0 3 0 emS [] pos,mayP l (mustP l s [(⟨#[40]⟩ : ByteArray)]) (⟨#[41]⟩ : ByteArray))
    else (rd (mustP l s [(⟨#[40]⟩ : ByteArray)])).map fun r=>(r.1,mustP l r.2 [(⟨#[41]⟩ : ByteArray)])):=by
 obtain ⟨x,hx,hxt,hm⟩:=h.get
 refine ⟨x.pos,?_⟩
 unfold simpleQ
 rw [if_neg (by rw [h.ok]; simp),hx]
 simp only
 rw [hk x hm,hxt]
 rfl
def okS (r : List ByteArray) : Prop:=∀ t ts,r = t :: ts → sEq t (⟨#[46]⟩ : ByteArray) = false ∧ sEq t (⟨#[40]⟩ : ByteArray) = false
theorem okR.s {k : Nat} {r : List ByteArray} (h : okR k r) : okS r:=fun t ts e=>(h t ts e).2
theorem okS.dot {r : List ByteArray} (h : okS r) : noDot r:=fun t ts e=>(h t ts e).1
def endL : List ByteArray:=[(⟨#[41]⟩ : ByteArray),(⟨#[125]⟩ : ByteArray),(⟨#[44]⟩ : ByteArray),(⟨#[59]⟩ : ByteArray),(⟨#[123]⟩ : ByteArray)]
theorem end_signs : (endL.all fun v=>(List.range 6).all fun k=>(findK v (signsK k)).isNone) = true:=by kernel_rfl
theorem okR_end (k : Nat) {t : ByteArray} {ts : List ByteArray} (ht : inL t endL = true) : okR k (t :: ts):=by
 refine okR_cons (fun k' hk'=>?_) (headL_ok _ _ (by kernel_rfl) ht) (headL_ok _ _ (by kernel_rfl) ht)
 obtain ⟨v,hv,hs⟩:=List.any_eq_true.1 ht
 rw [sEq_iff.1 hs]
 rcases Nat.lt_or_ge k' 6 with h | h
 ·have:=List.all_eq_true.1 (List.all_eq_true.1 end_signs v hv) k' (List.mem_range.2 h)
  simpa using this
 ·exact signs6 _ h
theorem place_len (x : Pl) : x.path.length + 1 ≤ x.tk.length:=by
 have : ∀ p : List ByteArray,p.length ≤ (pathTk p).length:=fun p=>by
  induction p with
  | nil=>exact Nat.le_refl _
  | cons a p ih=>rw [pathTk,List.length_cons,List.length_cons,List.length_cons]; omega
 unfold Pl.tk
 have:=this x.path
 rw [List.length_cons]; omega
theorem emS_eq {s : ByteArray} (h : sEq s emS = true) : s = emS:=sEq_iff.1 h
theorem noPl_eq {x : Pl} (h : noPlB x = true) : x = zeroPl:=by
 unfold noPlB at h
 simp only [Bool.and_eq_true,decide_eq_true_eq] at h
 obtain ⟨a,b⟩:=x
 simp only at h
 rw [emS_eq h.1,List.eq_nil_of_length_eq_zero h.2]; rfl
theorem lent_rd {l : List Tok} (hk : Kinds l) {a : Ex} (hw : ∃ d,a.whole d = true) (hb : lentOp a.op = false → Eb l a) {n : Nat} (hn : 10 * a.tk.length + 6 ≤ n) {r : List ByteArray} (hr : okR 0 r) : Rd l (lentQ l n (strongQ l n 6)) keyE a.tk r (keyE a):=fun s hs=>by
 cases hl : lentOp a.op with
 | false =>
  obtain ⟨t,ts,ht,hh⟩:=ex_head a hw
  have h0:=hs
  rw [ht] at h0
  have h1 : AtR l s (t :: (ts ++ r)):=h0
  unfold lentQ
  rw [h1.is,hh.am hl,if_neg (by simp)]
  exact hb hl n hn r hr s hs
 | true =>
  obtain ⟨d,hd⟩:=hw
  have hF:=ex_facts hd
  have hop : a.op = 5 ∨ a.op = 6:=by unfold lentOp at hl; simpa using hl
  have hlab:=hF.lab
  have hpl:=hF.pl
  have hhi:=hF.high
  have h7 : ¬ signI a.op < 7:=by rw [sign_not7]; omega
  have hname : a.name = emS ∧ a.second = emS ∧ a.int = 0:=by
   unfold labB at hlab
   simp only [Bool.and_eq_true] at hlab
   rw [if_neg (by omega),if_neg (by omega),if_neg (by omega),if_neg (by omega),if_neg (by omega)] at hlab
   exact ⟨emS_eq hlab.1.1,emS_eq hlab.1.2,by simpa using hlab.2⟩
  have hpw : a.place.whole = true:=by
   unfold placedB at hpl
   rwa [if_pos (by rcases hop with h | h <;> rw [h] <;> rfl)] at hpl
  have hargs : a.args = []:=by
   unfold shM at hhi
   rw [if_pos (by omega)] at hhi
   exact List.eq_nil_of_length_eq_zero (by omega)
  have htk:=exTk_eq a
  unfold exTk1 at htk
  rw [if_neg h7,if_neg (by omega),if_neg (by omega),if_neg (by omega),if_neg (by omega)] at htk
  have hpn : nameB a.place.name = true:=by unfold Pl.whole at hpw; simp only [Bool.and_eq_true] at hpw; exact hpw.1
  have hpl2:=place_len a.place
  have hkey:=key_of (e:=a) rfl hname.2.2 hname.1 hname.2.1 rfl
  rw [hargs] at hkey
  by_cases h5 : a.op = 5
  ·rw [if_pos h5] at htk
   rw [htk] at hs hn
   have h1 : AtR l s ((⟨#[38]⟩ : ByteArray) :: (a.place.tk ++ r)):=hs
   have h2 : AtR l s.nx (a.place.name :: (pathTk a.place.path ++ r)):=h1.next
   obtain ⟨y,s',e1,e2,e3,e4⟩:=place_rd hk hpw hr.dot (n:=n) (by simp at hn; omega) s.nx h1.next
   refine ⟨.mk 5 0 emS emS y [] (placeP l s),s',?_,e2,e3,?_⟩
   ·unfold lentQ
    rw [h1.is,sEq_self,if_pos rfl,h1.may,h2.mayN (ne_kind (by rw [kind_name hpn]; decide)),h2.is,ne_kind (t:=a.place.name) (u:=(⟨#[109,117,116]⟩ : ByteArray)) (by rw [kind_name hpn]; decide),e1]
    rfl
   ·rw [hkey,key_mk,h5]
    have : y = a.place:=e4
    rw [this]
  ·have h6 : a.op = 6:=by omega
   rw [if_neg h5,if_pos h6] at htk
   rw [htk] at hs hn
   have h1 : AtR l s ((⟨#[38]⟩ : ByteArray) :: (⟨#[109,117,116]⟩ : ByteArray) :: (a.place.tk ++ r)):=hs
   obtain ⟨y,s',e1,e2,e3,e4⟩:=place_rd hk hpw hr.dot (n:=n) (by simp at hn; omega) s.nx.nx h1.next.next
   refine ⟨.mk 6 0 emS emS y [] (placeP l s),s',?_,e2,e3,?_⟩
   ·unfold lentQ
    rw [h1.is,sEq_self,if_pos rfl,h1.may,h1.next.may,h1.next.is,sEq_self,e1]
    rfl
   ·rw [hkey,key_mk,h6]
    have : y = a.place:=e4
    rw [this]
end Go.Proofs.YthohopjnpgbljaaGreatDoor
