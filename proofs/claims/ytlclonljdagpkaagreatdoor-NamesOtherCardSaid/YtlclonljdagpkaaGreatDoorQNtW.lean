/- A part of the proof. The statement is proved in the claim's last text. -/
import Derived.Test.YtlclonljdagpkaaGreatDoorQNtV
import Derived.Test.YtlclonljdagpkaaGreatDoorQMLt
import Derived.Test.YtlclonljdagpkaaGreatDoorQMLe
import Derived.Test.YtlclonljdagpkaaGreatDoorQMLd
import Derived.Test.YtlclonljdagpkaaGreatDoorQNRd1
import Derived.Test.YtlclonljdagpkaaGreatDoorQNPg
import Derived.Test.YtlclonljdagpkaaGreatDoorQNQn
set_option linter.unusedVariables false
set_option linter.unusedSimpArgs false
set_option maxRecDepth 100000
set_option maxHeartbeats 32000000
namespace Go.Proofs.YtlclonljdagpkaaGreatDoor
open Go.RowKit
attribute [local simp] List.replicate List.range List.range.loop resA zR retA AV.cuts AV.cut AObj.cut trim wkR wkT wkL wkN wkNR wkNL wkM wkMR wkML
theorem zDN {α : Type} {f : α -> Bool} {l : List α} (h : ∀ i (hi : i < l.length),i < l.length -> f l[i] = false) : l.any f = false:=by
 rw [List.any_eq_false];intro x hx
 obtain ⟨i,hi,rfl⟩:=List.getElem_of_mem hx
 rw [h i hi hi];simp
theorem zFE {α : Type} {f : α -> Bool} {l : List α} {q : Nat} (hq : q < l.length) (h : f l[q] = true) : l.any f = true:=List.any_eq_true.2 ⟨_,List.getElem_mem hq,h⟩
theorem zDO {α : Type} {f : α -> Bool} {l : List α} {q : Nat} (hno : ∀ i (hi : i < l.length),i < q -> f l[i] = false) (hq : q < l.length) (h : f l[q] = false) : ∀ i (hi : i < l.length),i < q + 1 -> f l[i] = false:=fun i hi h1=>by
 rcases Nat.lt_or_ge i q with h2 | h2
 .exact hno i hi h2
 .obtain rfl : i = q:=by omega
  exact h
theorem zWp (t : ByteArray) : ∀ (e : Ex),ExSm e -> ∀ (S : ASt),ADet Tryz.prog 21 [exV e,Sg t] S (B (e.has t)) S:=by
 refine Ex.ind fun e ih hsm S=>?_
 obtain ⟨_,_,_,_,hlen0,hsub⟩:=hsm
 have hlen : e.args.length <= maxLen:=by unfold maxLen; omega
 refine ADet.intro mixed Tryz.call21 Tryz.func21 rfl ?_
 cases hn : sEq e.place.name t with
 | true =>
  have ht : e.has t = true:=by rw [zTk,hn]; rfl
  simp [Tryz.ntmps21,hn,ht]
 | false =>
 simp [Tryz.ntmps21,hn];refine zE (fun q : Nat=>q <= e.args.length /\ ∀ i (hi : i < e.args.length),i < q -> e.args[i].has t = false) (fun q=>([.any,Sg t,.ptr 0 0 0,.any,B false,I q] ++ List.replicate 19 .any)) (fun q=>[.cells [U e.op,I e.int,Sg e.name,Sg e.second,Sg e.place.name,.p (strs e.place.path),.p (.sl 8 (e.args.map Ex.enc)),I e.pos] 40] :: S) (fun q=>e.args.length - q) 0 ⟨Nat.zero_le _,fun i hi h=>by omega⟩ ?_ ?_ ?_
 .simp
 .simp
 rintro q ⟨hq,hno⟩
 by_cases hlt : q < e.args.length
 .have hlt' : (q : Int) < (e.args.length : Int):=by omega
  have hw:=zD hlt hlen
  have hmu : e.args.length - (q + 1) < e.args.length - q:=by omega
  have iC:=fun S=>ih _ (List.getElem_mem hlt) (hsub _ (List.getElem_mem hlt)) S
  have hs:=fun h=>zFE (f:=Ex.has t) hlt h
  have hn2:=zDO (f:=Ex.has t) hno hlt
  generalize hf : e.args[q] = x at *
  simp [hlt,hlt',hf,zv];refine ⟨_,_,iC _,?_⟩
  cases hx : x.has t with
  | true =>
   have ht : e.has t = true:=by rw [zTk,hs hx]; simp
   simp [ht]
  | false =>
   simp;exact ⟨q + 1,⟨hlt,hn2 hx⟩,hmu,hw⟩
 .have hlt' : ¬ (q : Int) < (e.args.length : Int):=by omega
  have hall : e.args.any (Ex.has t) = false:=zDN fun i hi _=>hno i hi (by omega)
  have he : e.has t = false:=by rw [zTk,hall,hn]; rfl
  simp [hlt,hlt',he]
def CH (t : ByteArray) (l : List St) : Prop:=∀ S : ASt,ADet Tryz.prog 20 [.p (.sl 15 (l.map St.enc)),Sg t] S (B (l.any (St.has t))) S
theorem zTp (t : ByteArray) (l : List St) (hl : l.length <= 20000) (h : ∀ s ∈ l,StSm s /\ CH t s.body /\ CH t s.els /\ ∀ r ∈ s.arms,CH t r.body) : CH t l:=fun S=>by
 have hlen : l.length <= maxLen:=by unfold maxLen; omega
 refine ADet.intro mixed Tryz.call20 Tryz.func20 rfl ?_;simp [Tryz.ntmps20];refine zE (fun q : Nat=>q <= l.length /\ ∀ i (hi : i < l.length),i < q -> l[i].has t = false) (fun q=>([.p (.sl 15 (l.map St.enc)),Sg t,.any,.any,B false,I q] ++ List.replicate 94 .any)) (fun q=>[] :: S) (fun q=>l.length - q) 0 ⟨Nat.zero_le _,fun i hi h=>by omega⟩ ?_ ?_ ?_
 .simp
 .simp
 rintro q ⟨hq,hno⟩
 by_cases hlt : q < l.length
 .have hlt' : (q : Int) < (l.length : Int):=by omega
  have hw:=zD hlt hlen
  have hmu : l.length - (q + 1) < l.length - q:=by omega
  obtain ⟨hsm,hb,he,har⟩:=h _ (List.getElem_mem hlt)
  have hs:=fun h=>zFE (f:=St.has t) hlt h
  have hn:=zDO (f:=St.has t) hno hlt
  generalize hf : l[q] = s at *
  obtain ⟨_,_,_,hnm,_,_,hex,_,_,ha0,_,_,_,_⟩:=hsm
  have hnl0:=hnm.1
  have hex1:=hex.1
  have hnl : s.names.length <= maxLen:=by unfold maxLen; omega
  have hexl : s.exprs.length <= maxLen:=by unfold maxLen; omega
  have hal : s.arms.length <= maxLen:=by unfold maxLen; omega
  have hsh:=zZz t s
  cases h1 : sEq s.name t with
  | true =>
   rw [h1,Bool.true_or,Bool.true_or,Bool.true_or] at hsh
   simp [hlt,hlt',hf,zAz,h1,hs hsh]
  | false =>
  cases h2 : sEq s.second t with
  | true =>
   rw [h1,h2,Bool.true_or,Bool.or_true,Bool.true_or,Bool.true_or] at hsh
   simp [hlt,hlt',hf,zAz,h1,h2,hs hsh]
  | false =>
  cases h3 : sEq s.place.name t with
  | true =>
   rw [h1,h2,h3,Bool.or_true,Bool.or_true,Bool.true_or,Bool.true_or] at hsh
   simp [hlt,hlt',hf,zAz,h1,h2,h3,hs hsh]
  | false =>
  rw [h1,h2,h3,Bool.or_false,Bool.or_false,Bool.false_or] at hsh;simp [hlt,hlt',hf,zAz,h1,h2,h3];refine zE (fun k : Nat=>k <= s.names.length /\ ∀ i (hi : i < s.names.length),i < k -> sEq s.names[i] t = false) (fun k=>([.p (.sl 15 (l.map St.enc)),Sg t,.any,.any,B false,I q,.ptr 0 0 0,I k] ++ List.replicate 92 .any)) (fun k=>[.cells (stU s) 45] :: S) (fun k=>s.names.length - k) 0 ⟨Nat.zero_le _,fun i hi h=>by omega⟩ ?_ ?_ ?_
  .simp
  .simp
  rintro k ⟨hk,hnk⟩
  by_cases hlk : k < s.names.length
  .have hlk' : (k : Int) < (s.names.length : Int):=by omega
   have hw3:=zD hlk hnl
   have hmu3 : s.names.length - (k + 1) < s.names.length - k:=by omega
   have hsx:=fun h=>zFE (f:=fun x=>sEq x t) hlk h
   have hnx:=zDO (f:=fun x=>sEq x t) hnk hlk
   generalize hfx : s.names[k] = x at *
   cases hx : sEq x t with
   | true =>
    rw [hsx hx,Bool.true_or,Bool.true_or] at hsh
    simp [hlk,hlk',hfx,strs,hx,hs hsh]
   | false =>
    simp [hlk,hlk',hfx,strs,hx];exact ⟨k + 1,⟨hlk,hnx hx⟩,hmu3,hw3⟩
  .have hlk' : ¬ (k : Int) < (s.names.length : Int):=by omega
   have hall1 : s.names.any (fun x=>sEq x t) = false:=zDN (f:=fun x=>sEq x t) fun i hi _=>hnk i hi (by omega)
   rw [hall1,Bool.false_or] at hsh;simp [hlk',strs];refine zE (fun k : Nat=>k <= s.exprs.length /\ ∀ i (hi : i < s.exprs.length),i < k -> s.exprs[i].has t = false) (fun k=>([.p (.sl 15 (l.map St.enc)),Sg t,.any,.any,B false,I q,.ptr 0 0 0,.any,I k] ++ List.replicate 91 .any)) (fun k=>[.cells (stU s) 45] :: S) (fun k=>s.exprs.length - k) 0 ⟨Nat.zero_le _,fun i hi h=>by omega⟩ ?_ ?_ ?_
   .simp
   .simp [strs]
   clear hk hnk hlk hlk'
   rintro k ⟨hk,hnk⟩
   by_cases hlk : k < s.exprs.length
   .have hlk' : (k : Int) < (s.exprs.length : Int):=by omega
    have hw3:=zD hlk hexl
    have hmu3 : s.exprs.length - (k + 1) < s.exprs.length - k:=by omega
    have iC:=fun S=>zWp t _ (hex.2 _ (List.getElem_mem hlk)) S
    have hsx:=fun h=>zFE (f:=Ex.has t) hlk h
    have hnx:=zDO (f:=Ex.has t) hnk hlk
    generalize hfx : s.exprs[k] = x at *
    simp [hlk,hlk',hfx,zv];refine ⟨_,_,iC _,?_⟩
    cases hx : x.has t with
    | true =>
     rw [hsx hx,Bool.true_or] at hsh
     simp [hs hsh]
    | false =>
     simp;exact ⟨k + 1,⟨hlk,hnx hx⟩,hmu3,hw3⟩
   .have hlk' : ¬ (k : Int) < (s.exprs.length : Int):=by omega
    have hall2 : s.exprs.any (Ex.has t) = false:=zDN fun i hi _=>hnk i hi (by omega)
    rw [hall2,Bool.false_or] at hsh;simp [hlk'];refine zE (fun k : Nat=>k <= s.arms.length /\ ∀ i (hi : i < s.arms.length),i < k -> s.arms[i].has t = false) (fun k=>([.p (.sl 15 (l.map St.enc)),Sg t,.any,.any,B false,I q,.ptr 0 0 0,.any,.any,I k] ++ List.replicate 90 .any)) (fun k=>[.cells (stU s) 45] :: S) (fun k=>s.arms.length - k) 0 ⟨Nat.zero_le _,fun i hi h=>by omega⟩ ?_ ?_ ?_
    .simp
    .simp
    clear hk hnk hlk hlk'
    rintro k ⟨hk,hnk⟩
    by_cases hlk : k < s.arms.length
    .have hlk' : (k : Int) < (s.arms.length : Int):=by omega
     have hw3:=zD hlk hal
     have hmu3 : s.arms.length - (k + 1) < s.arms.length - k:=by omega
     have aC:=har _ (List.getElem_mem hlk)
     have hsx:=fun h=>zFE (f:=Ar.has t) hlk h
     have hnx:=zDO (f:=Ar.has t) hnk hlk
     generalize hfx : s.arms[k] = x at *
     cases hx1 : sEq x.name t with
     | true =>
      rw [hsx (by unfold Ar.has; rw [hx1]; rfl),Bool.true_or] at hsh
      simp [hlk,hlk',hfx,Ar.enc,hx1,hs hsh]
     | false =>
      simp [hlk,hlk',hfx,Ar.enc,hx1];refine ⟨_,_,aC _,?_⟩
      cases hx : x.body.any (St.has t) with
      | true =>
       rw [hsx (by unfold Ar.has; rw [hx]; simp),Bool.true_or] at hsh
       simp [hs hsh]
      | false =>
       simp;exact ⟨k + 1,⟨hlk,hnx (by unfold Ar.has; rw [hx1,hx]; rfl)⟩,hmu3,hw3⟩
    .have hlk' : ¬ (k : Int) < (s.arms.length : Int):=by omega
     have hall3 : s.arms.any (Ar.has t) = false:=zDN fun i hi _=>hnk i hi (by omega)
     rw [hall3,Bool.false_or] at hsh;simp [hlk'];refine ⟨_,_,hb _,?_⟩
     cases hbb : s.body.any (St.has t) with
     | true =>
      rw [hbb,Bool.true_or] at hsh
      simp [hs hsh]
     | false =>
      simp;refine ⟨_,_,he _,?_⟩
      cases hee : s.els.any (St.has t) with
      | true =>
       rw [hbb,hee] at hsh
       simp [hs hsh]
      | false =>
       rw [hbb,hee] at hsh;simp;exact ⟨q + 1,⟨hlt,hn hsh⟩,hmu,hw⟩
 .have hlt' : ¬ (q : Int) < (l.length : Int):=by omega
  have hall : l.any (St.has t) = false:=zDN fun i hi _=>hno i hi (by omega)
  simp [hlt,hlt',hall]
theorem zZ0 (t : ByteArray) : ∀ s : St,StSm s -> CH t s.body /\ CH t s.els /\ ∀ r ∈ s.arms,CH t r.body:=by
 refine St.ind fun s i1 i2 i3 h=>?_
 obtain ⟨_,_,_,_,_,_,_,hb,hl,_,k1,k2,k3,k4⟩:=h
 exact ⟨zTp t s.body hb fun x hx=>⟨k1 x hx,i1 x hx (k1 x hx)⟩,zTp t s.els hl fun x hx=>⟨k2 x hx,i2 x hx (k2 x hx)⟩,fun r hr=>zTp t r.body (k3 r hr).2.2 fun x hx=>⟨k4 r hr x hx,i3 r hr x hx (k4 r hr x hx)⟩⟩
theorem hasC (t : ByteArray) (l : List St) (h : zSl l) : CH t l:=zTp t l h.1 fun s hs=>⟨h.2 s hs,zZ0 t s (h.2 s hs)⟩
end Go.Proofs.YtlclonljdagpkaaGreatDoor
namespace Go.Proofs.YtlclonljdagpkaaGreatDoor
open Go.RowKit
theorem Lent.rowP {S : ASt} {o n k : Nat} {E : TypeId} {α : Type} {enc : α -> List PV} {l : List α} (h : get2 S 0 o = some (.row E k n (rowC enc l))) (hn : l.length = n) (hk : ∀ x,(enc x).length = k) : Lent S (.rsl 0 o n k) (.sl k (l.map enc)):=by
 refine Lent.row (css:=l.map fun f=>(enc f).map AV.p) h (by simp [hn]) (by simp [hn]) fun r cs row h1 h2=>?_
 rw [List.getElem?_map] at h1 h2
 obtain ⟨f,hf,rfl⟩:=Option.map_eq_some_iff.1 h1
 rw [hf] at h2
 obtain rfl : enc f = row:=by simpa using h2
 refine ⟨by simp [hk],hk f,fun j c q hc hq=>?_⟩
 rw [List.getElem?_map,hq] at hc
 obtain rfl : AV.p q = c:=by simpa using hc
 exact .p q
inductive LentAll (S : ASt) : List AV -> List PV -> Prop
 | nil : LentAll S [] []
 | cons {c : AV} {q : PV} {cs : List AV} {qs : List PV} : Lent S (c.up 0) q -> LentAll S cs qs -> LentAll S (c :: cs) (q :: qs)
theorem LentAll.len {S : ASt} {cs : List AV} {qs : List PV} (h : LentAll S cs qs) : cs.length = qs.length:=by
 induction h with
 | nil=>rfl
 | cons _ _ ih=>simp [ih]
theorem LentAll.get {S : ASt} {cs : List AV} {qs : List PV} (h : LentAll S cs qs) : ∀ (j : Nat) (q : PV),qs[j]? = some q -> ∃ c,cs[j]? = some c /\ Lent S (c.up 0) q:=by
 induction h with
 | nil=>intro j q h; simp at h
 | cons h1 _ ih =>
  intro j q hq
  cases j with
  | zero=>simp at hq; subst hq; exact ⟨_,rfl,h1⟩
  | succ j=>simpa using ih j q (by simpa using hq)
theorem Lent.itemsG {S : ASt} {o n k : Nat} {E : TypeId} {cs : List AV} {rows : List (List PV)} (h : get2 S 0 o = some (.row E k n cs)) (hn : rows.length = n) (hk : ∀ row ∈ rows,row.length = k) (hr : ∀ r (h : r < rows.length),LentAll S ((cs.drop (r * k)).take k) rows[r]) : Lent S (.rsl 0 o n k) (.sl k rows):=by
 have key : ∀ (r : Nat) (row : List PV) (j : Nat) (p : PV),rows[r]? = some row -> row[j]? = some p -> ∃ c,cs[r * k + j]? = some c /\ Lent S (c.up 0) p:=fun r row j p h1 h2=>by
  obtain ⟨hlt,rfl⟩:=List.getElem?_eq_some_iff.1 h1
  obtain ⟨c,hc,hl⟩:=(hr r hlt).get j p h2
  rw [List.getElem?_take] at hc;split at hc
  .rw [List.getElem?_drop] at hc; exact ⟨c,hc,hl⟩
  .cases hc
 refine .rsl (fun x=>cs.getD x .any) h hn (fun r row hr'=>hk row (List.mem_of_getElem? hr')) (fun r row j p h1 h2=>?_) fun r row j p h1 h2=>?_
 .obtain ⟨c,hc,_⟩:=key r row j p h1 h2
  rw [List.getD,hc]; rfl
 .obtain ⟨c,hc,hl⟩:=key r row j p h1 h2
  rw [List.getD,hc]; exact hl
theorem Lent.items {S : ASt} {o n : Nat} {E : TypeId} {cs : List AV} {q : List It} (h : get2 S 0 o = some (.row E 16 n cs)) (hn : q.length = n) (hr : ∀ r (h : r < q.length),LentAll S ((cs.drop (r * 16)).take 16) q[r].enc) : Lent S (.rsl 0 o n 16) (.sl 16 (q.map It.enc)) :=
 Lent.itemsG h (by simp [hn]) (fun row hm=>by obtain ⟨x,_,rfl⟩:=List.mem_map.1 hm; rfl) fun r h=>by
  have h' : r < q.length:=by simpa using h
  rw [List.getElem_map]; exact hr r h'
end Go.Proofs.YtlclonljdagpkaaGreatDoor
namespace Go.Proofs.YtlclonljdagpkaaGreatDoor
open Go.RowKit
structure CpO (n k : Nat) (p : List It) (rc : List AV) (fs : Nat -> List Fi) (D : List AObj) : Prop where
 len : D.length = n - k + 1 + 5 * p.length
 keep : ∀ o ∈ D,∀ N,n + 1 + 5 * p.length <= N -> wkL [o.cut N] [o]
 rw : D[n - k]? = some (.row 42 16 p.length rc)
 fl : ∀ j (h : j < p.length),(fs j).length = p[j].fields.length
 fi : ∀ j (h : j < p.length),D[n - k + (5 * j + 4)]? = some (.row 55 4 p[j].fields.length (rowC Fi.enc (fs j)))
def zItF : It:=⟨0,⟨#[]⟩,[],.mk 0 ⟨#[]⟩ [],[],.mk 0 0 ⟨#[]⟩ ⟨#[]⟩ ⟨⟨#[]⟩,[]⟩ [] 0,0⟩
theorem zUX (m : Nat) (p : List It) : CpO (m + 11) m p (zA9 (m + 11) p) (fun j=>(p.getD j zItF).fields) (List.replicate 11 .dead ++ prP (m + 11) p):=by
 have hl:=zLs (m + 11) p
 have e : m + 11 - m = 11:=by omega
 have hD : ∀ j (h : j < p.length),p.getD j zItF = p[j]:=fun j h=>by simp [List.getD,h]
 refine ⟨by rw [e,List.length_append,List.length_replicate,hl]; omega,fun o ho N hN=>?_,?_,fun j hj=>by rw [hD j hj],fun j hj=>?_⟩
 .rcases List.mem_append.1 ho with h | h
  .rw [List.eq_of_mem_replicate h]; trivial
  .exact zUa N (m + 11) p (by omega) o h
 .rw [e,List.getElem?_append_right (by simp),List.length_replicate]; rfl
 .rw [e,List.getElem?_append_right (by simp),List.length_replicate,Nat.add_sub_cancel_left,hD j hj]
  exact zW0 (m + 11) p hj
theorem zRB {α : Type} {cs l : List α} {o n : Nat} (h : (cs.drop o).take n = l) {j : Nat} {c : α} (hc : l[j]? = some c) : cs[o + j]? = some c:=by
 subst h;rw [List.getElem?_take] at hc;split at hc
 .rw [List.getElem?_drop] at hc; exact hc
 .cases hc
theorem zYy (p : List It) : CpO 13 2 p (zA9 13 p) (fun j=>(p.getD j zItF).fields) (List.replicate 11 .dead ++ prP 13 p):=zUX 2 p
theorem zw {α : Type} (cs : List α) (v : α) {i j r : Nat} (hj : j < 16) (hr : r ≠ i) : ((cs.set (i * 16 + j) v).drop (r * 16)).take 16 = (cs.drop (r * 16)).take 16:=by
 rw [List.drop_set];split
 .rfl
 .rw [List.take_set,List.set_eq_of_length_le]
  rw [List.length_take];omega
theorem zx {α : Type} (cs : List α) (v : α) {i j : Nat} (hj : j < 16) : ((cs.set (i * 16 + j) v).drop (i * 16)).take 16 = ((cs.drop (i * 16)).take 16).set j v:=by
 rw [List.drop_set,if_neg (by omega),List.take_set,Nat.add_sub_cancel_left]
theorem zLj {A : List AObj} {R : ASt} {p : List It} {i o : Nat} (hi : i < p.length) {rc : List AV} (row : List PV) (cells : List AV) (hrow : A[o]? = some (.row 42 16 p.length rc))
  (hpart : ∀ r (h : r < p.length),r ≠ i -> (rc.drop (r * 16)).take 16 = itRF p[r] (o + 5 * r + 4)) (hparti : (rc.drop (i * 16)).take 16 = cells)
  (hfi : ∀ j (h : j < p.length),j ≠ i -> A[o + 5 * j + 4]? = some (.row 55 4 p[j].fields.length (rowC Fi.enc p[j].fields))) (hrl : row.length = 16) (hcell : LentAll (A :: R) cells row) :
  LentL (A :: R) [.agg [.rsl 0 o p.length 16]] [.agg [.p (.sl 16 ((p.map It.enc).set i row))]]:=by
 have key : Lent (A :: R) (.rsl 0 o p.length 16) (.sl 16 ((p.map It.enc).set i row)):=by
  refine Lent.itemsG (show get2 (A :: R) 0 o = _ from hrow) (by simp) (fun r hm=>?_) fun r hr=>?_
  .rcases List.mem_or_eq_of_mem_set hm with h | h
   .obtain ⟨x,_,rfl⟩:=List.mem_map.1 h; rfl
   .rw [h]; exact hrl
  have hr' : r < p.length:=by simpa using hr
  by_cases hri : r = i
  .subst hri
   rw [hparti,List.getElem_set_self];exact hcell
  .rw [hpart r hr' hri,List.getElem_set_ne (Ne.symm hri),List.getElem_map]
   have l1 : Lent (A :: R) (.rsl 0 (o + 5 * r + 4) p[r].fields.length 4) (.sl 4 (p[r].fields.map Fi.enc)):=Lent.rowP (show get2 (A :: R) 0 _ = _ from hfi r hr' hri) rfl fun _=>rfl
   generalize p[r] = y at l1 ⊢
   exact .cons (.p _) (.cons (.p _) (.cons l1 (.cons (.p _) (.cons (.p _) (.cons (.p _) (.cons (.p _) (.cons (.p _) (.cons (.p _) (.cons (.p _) (.cons (.p _) (.cons (.p _) (.cons (.p _) (.cons (.p _) (.cons (.p _) (.cons (.p _) .nil)))))))))))))))
 exact .cons (LentA.agg (l:=[(.rsl 0 o p.length 16,.sl 16 ((p.map It.enc).set i row))]) (fun c hc=>by rw [List.mem_singleton.1 hc]; exact key)) .nil
theorem zFb {r r' : List PV} (h : LeRow r r') : ∀ (l : List (List PV)) (i : Nat),LeRows (l.set i r) (l.set i r')
 | [],_=>.refl _
 | x :: l,0=>.cons h (.refl _)
 | x :: l,i + 1=>.cons (.refl _) (zFb h l i)
theorem zRC (fl : List Flt) : ∀ v ∈ rowC fltE fl,∃ x,v = .p (.v x) /\ atom x = true:=fun v hv=>by
 unfold rowC at hv;rw [List.mem_flatten] at hv
 obtain ⟨l,hl,hv⟩:=hv
 obtain ⟨f,_,rfl⟩:=List.mem_map.1 hl
 simp only [fltE,List.map_cons,List.map_nil,List.mem_cons,List.not_mem_nil,or_false] at hv
 rcases hv with rfl | rfl
 .exact ⟨_,rfl,rfl⟩
 .exact ⟨_,rfl,rfl⟩
theorem zHU (q : List It) (hs : PrSm q) (hn : (q.map It.nd).sum <= 30000) (hw : z6 q = true) {L : List AObj} {R : ASt} {args : List AV} {rows : List (List PV)} (hl : LentL (L :: R) args [.agg [.p (.sl 16 rows)]]) (hle : LeRows rows (q.map It.enc)) : ADet Tryz.prog 24 args (L :: R) (.rsl 0 (L.length + 4) (z7 q).length 2) ((L ++ [.dead,.dead,.dead,.dead,rwO (z7 q)]) :: R):=by
 have h:=zI3 q hs hn hw [] trivial []
 have h2:=ADet.sub (.cons (.agg (.cons (.p (.sl hle)) (.refl _))) (.refl _)) h
 exact ADet.lendRow (c:=4) (by simpa [rwO] using h2) (zRC _) hl
theorem zYz : ∀ {p : List It} {x : It},x ∈ p -> x.nd <= (p.map It.nd).sum
 | y :: p,x,h=>by
  rw [List.map_cons,List.sum_cons]
  rcases List.mem_cons.1 h with rfl | h
  .omega
  .have:=zYz h; omega
theorem zWq (l : List St) : 3 * l.length <= (l.map St.nd).sum:=by
 induction l with
 | nil=>simp
 | cons s l ih=>rw [List.map_cons,List.sum_cons,List.length_cons,stNd]; omega
theorem zLk : ∀ {B : List AObj},(∀ o ∈ B,wkL [o] [o]) -> wkL B B
 | [],_=>trivial
 | o :: B,h=>zD7 (h o (by simp)) (zLk fun y hy=>h y (List.mem_cons_of_mem _ hy))
theorem zRD {p : List It} {i : Nat} {x' : It} (hp : PrSm p) (hx : ItSm x') : PrSm (p.set i x'):=⟨by rw [List.length_set]; exact hp.1,fun y hy=>by
 rcases List.mem_or_eq_of_mem_set hy with h | rfl
 .exact hp.2 y h
 .exact hx⟩
theorem zRE : ∀ (p : List It) (i : Nat) (x x' : It),p[i]? = some x -> ((p.set i x').map It.nd).sum + x.nd = (p.map It.nd).sum + x'.nd
 | [],i,x,x',h=>by simp at h
 | y :: p,0,x,x',h=>by
  simp at h;subst h
  simp only [List.set_cons_zero,List.map_cons,List.sum_cons]; omega
 | y :: p,i + 1,x,x',h=>by
  have:=zRE p i x x' (by simpa using h)
  simp only [List.set_cons_succ,List.map_cons,List.sum_cons]; omega
theorem zRF : ∀ (l : List Flt) (i : Nat) (h : i < l.length),((rowC fltE l).drop (i * 2)).take 2 = [I l[i].1,I l[i].2]
 | e :: l,0,h=>rfl
 | e :: l,i + 1,h=>by
  have:=zRF l i (by simpa using h)
  have e1 : (i + 1) * 2 = i * 2 + 1 + 1:=by omega
  have e2 : ∀ (x : Flt) (m : List Flt),rowC fltE (x :: m) = I x.1 :: I x.2 :: rowC fltE m:=fun _ _=>rfl
  rw [e2,e1];exact this
theorem zKc (o : AObj) (h : wkL [o] [o]) : ∀ X : List AObj,wkL (X ++ [o]) (List.replicate X.length .dead ++ [o])
 | []=>h
 | x :: X=>zD7 (by cases x <;> trivial) (zKc o h X)
end Go.Proofs.YtlclonljdagpkaaGreatDoor
