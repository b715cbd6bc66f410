/- A part of the proof. The statement is proved in the claim's last text. -/
import Derived.Test.YtlclonljdagpkaaGreatDoorQMLd
import Derived.Test.YtlclonljdagpkaaGreatDoorQMWp
set_option linter.unusedVariables false
set_option linter.unusedSimpArgs false
set_option maxRecDepth 100000
set_option maxHeartbeats 32000000
namespace Go.Proofs.YtlclonljdagpkaaGreatDoor
open Go.RowKit
theorem ADet.afterS {P : Program} {K : FuncId} {args : List AV} {S S' S'' : ASt} {r : AV} (hw : wkS S' S'') (h : ADet P K args S r S') : ADet P K args S r S'' :=
 ⟨h.1,fun Pr φ xs w hargs hR hne=>(h.2 Pr φ xs w hargs hR hne).mono fun e w' hp=>by
  obtain ⟨x,Pr',φ',h1,h2,h3,h4⟩:=hp
  exact ⟨x,Pr',φ',h1,h2,zEO h3 hw,h4⟩⟩
theorem zP1 {L A B : List AObj} {R : ASt} (h : wkL A B) : wkS ((L ++ A) :: R) ((L ++ B) :: R):=by
 obtain ⟨h1,h2⟩:=zTx h
 refine ⟨by simp [h1],fun d i o ho=>?_⟩
 cases d with
 | succ d=>exact ⟨o,ho,zIU o⟩
 | zero =>
  have ho' : (L ++ B)[i]? = some o:=ho
  rcases Nat.lt_or_ge i L.length with hi | hi
  .rw [List.getElem?_append_left hi] at ho'
   exact ⟨o,by show (L ++ A)[i]? = some o; rw [List.getElem?_append_left hi]; exact ho',zIU o⟩
  .rw [List.getElem?_append_right hi] at ho'
   obtain ⟨o0,k1,k2⟩:=h2 _ o ho'
   exact ⟨o0,by show (L ++ A)[i]? = some o0; rw [List.getElem?_append_right hi]; exact k1,k2⟩
def zK4 (P : Program) (rs : List ResultVar) (r : AV) (S' : ASt) : Exit -> List AV -> ASt -> Prop:=fun e fr S1 =>
 (e = .normal \/ e = .ret) /\ ∃ vs,resA P fr S1 rs = some vs /\ ∃ L1 L R L2,S1 = L1 :: L :: R /\ (retA vs).mrg L.length = r /\ wkL (L1.map (AObj.mrg L.length)) L2 /\ (L ++ L2) :: R = S'
theorem zNS (P : Program) (rs : List ResultVar) (r : AV) (e : Exit) (fr : List AV) (L1 L : List AObj) (R S' : ASt) : zK4 P rs r S' e fr (L1 :: L :: R) = ((e = .normal \/ e = .ret) /\ ∃ vs,resA P fr (L1 :: L :: R) rs = some vs /\ (retA vs).mrg L.length = r /\ ∃ L2,wkL (L1.map (AObj.mrg L.length)) L2 /\ (L ++ L2) :: R = S'):=by
 unfold zK4
 apply propext
 constructor
 .rintro ⟨h,vs,h1,L1',L',R',L2,h2,h3,h4,h5⟩
  cases h2;exact ⟨h,vs,h1,h3,L2,h4,h5⟩
 .rintro ⟨h,vs,h1,h3,L2,h4,h5⟩
  exact ⟨h,vs,h1,_,_,_,L2,rfl,h3,h4,h5⟩
attribute [simp] zNS
theorem ADet.mergeW {P : Program} {K : FuncId} {args : List AV} {S S' : ASt} {r : AV} {fn : Func} {c : Code} (hm : P.follows .mixedOrders = true) (hK : ∀ xs w,(callFunc K xs).run P w = .ok (.enter K xs) w) (hf : P.funcs[K]? = some fn) (hb : fn.body = some c)
  (h : awp P c (AV.ups 1 args ++ List.replicate (fn.ntmps - args.length) .un) ([] :: S) (zK4 P fn.results.toList r S')) : ADet P K args S r S':=by
 refine ⟨hK,fun Pr φ xs w hargs hR hne=>?_⟩
 refine calls_of_wp hf hb ?_
 have hfr : RF Pr ([] :: φ) (AV.ups 1 args ++ List.replicate (fn.ntmps - args.length) .un) { tmps:=xs ++ Array.replicate (fn.ntmps - xs.size) undef,defers:=[] }:=by
  refine ⟨by simp [zAY,hargs.1],fun t v x hv hx=>?_⟩
  rcases Nat.lt_or_ge t args.length with ht | ht
  .rw [List.getElem?_append_left (by rw [zAY]; exact ht),zBV] at hv
   obtain ⟨v0,h0,rfl⟩:=Option.map_eq_some_iff.1 hv
   simp only at hx;rw [Array.getElem?_append_left (by rw [<- hargs.1]; exact ht)] at hx
   exact RA.up (k:=1) (hargs.2 t v0 x h0 hx)
  .rw [List.getElem?_append_right (by rw [zAY]; exact ht)] at hv
   simp only at hx;rw [Array.getElem?_append_right (by rw [<- hargs.1]; exact ht)] at hx
   rw [List.getElem?_replicate] at hv;rw [Array.getElem?_replicate] at hx;split at hv
   .split at hx
    .cases hv; cases hx; exact .un
    .cases hx
   .cases hv
 refine wp_mono (zCD hm c _ Pr ([] :: φ) _ _ ([] :: S) w hfr (zCz hR) (by simp) h) fun e a' w' hp=>?_
 obtain ⟨fr',S1,Pr',φ',⟨he,vs,h1,L1,L,R,L2,rfl,h2,hw,h3⟩,h4,h5,h6,h7⟩:=hp
 obtain ⟨x,hx,hrun⟩:=zB8 (P:=P) (fn:=fn) h4 h5 h1
 have hne' : φ' ≠ []:=zZ h6 (by simp)
 obtain ⟨l1,φ0,rfl⟩:=List.exists_cons_of_ne_nil hne'
 have spop:=zEX h6
 have hne0 : φ0 ≠ []:=fun h0=>by have:=h5.shape; rw [h0] at this; simp at this
 obtain ⟨l,φ1,rfl⟩:=List.exists_cons_of_ne_nil hne0
 have hlen : l.length = L.length:=by have:=h5.shape; simp at this; exact this.2.1
 have hF:=zIm l l1 φ1
 have hS2 : Stp Pr φ w Pr' ((l ++ l1) :: φ1) w':=by
  refine ⟨spop.pl,spop.fl.trans hF,fun d i e g a b=>?_,spop.fr,?_,spop.pn⟩
  .obtain ⟨d1,i1,a1,_,_⟩:=zBZ a
   rcases h6.fresh _ _ _ g a1 b with ⟨d0,i0,e1,k1,k2⟩ | k1
   .cases d0 with
    | zero=>simp [get2] at k1
    | succ d0=>exact .inl ⟨d0,i0,e1,k1,k2⟩
   .exact .inr k1
  .have:=spop.len; simpa using this
 have hx2:=hx.mrg
 rw [hlen,h2] at hx2
 have hR2:=zEO (zPm h5) (zP1 hw)
 rw [h3] at hR2
 have key : a'.defers = [] /\ ∃ v,(results fn a'.tmps).run P w' = .ok v w' /\ ∃ x Pr' φ',Ending.returned v = .returned x /\ Stp Pr φ w Pr' φ' w' /\ Rel Pr' φ' S' w' /\ RA Pr' φ' r x :=
  ⟨h7,x,hrun,x,Pr',_,rfl,hS2,hR2,hx2⟩
 rcases he with rfl | rfl
 .exact key
 .exact key
end Go.Proofs.YtlclonljdagpkaaGreatDoor
namespace Go.Proofs.YtlclonljdagpkaaGreatDoor
open Go.RowKit
inductive Lent (S : ASt) : AV -> PV -> Prop
 | p (q : PV) : Lent S (.p q) q
 | nil (k : Nat) : Lent S (.p (.v (.slice none 0 0))) (.sl k [])
 | osl (k : Nat) (rows : List (List PV)) (d i : Nat) : Lent S (.osl k rows d i) (.sl k rows)
 | rsl {d i n k : Nat} {E : TypeId} {cs : List AV} {rows : List (List PV)} (cf : Nat -> AV) : get2 S d i = some (.row E k n cs) -> rows.length = n -> (∀ (r : Nat) (row : List PV),rows[r]? = some row -> row.length = k) ->
   (∀ (r : Nat) (row : List PV) (j : Nat) (q : PV),rows[r]? = some row -> row[j]? = some q -> cs[r * k + j]? = some (cf (r * k + j))) ->
   (∀ (r : Nat) (row : List PV) (j : Nat) (q : PV),rows[r]? = some row -> row[j]? = some q -> Lent S ((cf (r * k + j)).up d) q) -> Lent S (.rsl d i n k) (.sl k rows)
 | asl {d i n k : Nat} {t : TypeId} {cs : List AV} {rows : List (List PV)} (cf : Nat -> AV) : get2 S d i = some (.cells cs t) -> rows.length = n -> (∀ (r : Nat) (row : List PV),rows[r]? = some row -> row.length = k) ->
   (∀ (r : Nat) (row : List PV) (j : Nat) (q : PV),rows[r]? = some row -> row[j]? = some q -> cs[r * k + j]? = some (cf (r * k + j))) ->
   (∀ (r : Nat) (row : List PV) (j : Nat) (q : PV),rows[r]? = some row -> row[j]? = some q -> Lent S ((cf (r * k + j)).up d) q) -> Lent S (.asl d i n k) (.sl k rows)
theorem Lent.rp {S : ASt} {Pr : Prot} {φ : Fi2} {w : World} (hR : Rel Pr φ S w) {v : AV} {q : PV} (h : Lent S v q) : ∀ {x : Value},RA Pr φ v x -> RP (zBf w) q x:=by
 induction h with
 | p q =>
  intro x hx
  cases hx with
  | p h=>exact h.mono hR.pr
 | nil k =>
  intro x hx
  have:=zP hx rfl
  subst this
  exact .slemp k none 0 (Nat.zero_le _)
 | osl k rows d i=>intro x hx; exact hx.sl.mono hR.pr
 | @rsl d i n k E cs rows cf hS hl hw hc _ ih =>
  intro x hx
  obtain ⟨e',hE,htok,hen,hek,hk0,hcl,hrest⟩:=hR.obj d i _ hS
  generalize hkk : k = k' at hx
  cases hx with
  | rnil a b c =>
   have h0 : rows = []:=List.eq_nil_of_length_eq_zero hl
   subst h0
   exact .slemp _ none 0 (Nat.zero_le _)
  | @rsl _ _ _ g cap e a1 a2 a3 a4 a5 a6 a7 =>
   rw [hE] at a1; cases a1
   obtain ⟨hblk,hcap⟩:=a5 hen.symm
   obtain ⟨h0,_⟩ | ⟨g',xs,hg',hheap,hsz,hn0,hnc,hcm,hcs,hun⟩:=hrest
   .omega
   rw [hblk] at hg'; cases hg';subst hcap
   have hcell : ∀ o,zBf w g o = xs[o]?:=fun o=>zBB hheap o
   subst hl
   have key : ∀ (r : Nat) (row : List PV) (j : Nat) (p : PV),rows[r]? = some row -> row[j]? = some p -> zBf w g (0 + r * k + j) = some (xs.getD (r * k + j) undef) /\ RP (zBf w) p (xs.getD (r * k + j) undef):=fun r row j p hr hj=>by
    have h1:=hc r row j p hr hj
    have hlt : r * k + j < xs.size:=by
     have:=(List.getElem?_eq_some_iff.1 h1).1
     have h3 : rows.length * k <= e'.cap * k:=Nat.mul_le_mul_right _ hnc
     omega
    have hx : xs[r * k + j]? = some xs[r * k + j]:=Array.getElem?_eq_getElem hlt
    have hd : xs.getD (r * k + j) undef = xs[r * k + j]:=by simp [hlt]
    rw [Nat.zero_add,hcell,hd];exact ⟨hx,ih r row j p hr hj (hcs _ _ _ h1 hx).up⟩
   rw [<- hkk]
   exact .sl (off:=0) (fun r j=>xs.getD (r * k + j) undef) a6 a7 hw (fun r row j p hr hj=>(key r row j p hr hj).1) (fun r row j p hr hj=>(key r row j p hr hj).2)
 | @asl d i n k t cs rows cf hS hl hw hc _ ih =>
  intro x hx
  obtain ⟨e',hE,htok,g',xs,hg',hheap,hcl,hcs,hun⟩:=hR.obj d i _ hS
  cases hx with
  | asl h1 h2 h3 h4 =>
   rw [hE] at h1; cases h1;rw [h3] at hg'; cases hg';subst hl
   have key : ∀ (r : Nat) (row : List PV) (j : Nat) (p : PV),rows[r]? = some row -> row[j]? = some p -> zBf w _ (0 + r * k + j) = some (xs.getD (r * k + j) undef) /\ RP (zBf w) p (xs.getD (r * k + j) undef):=fun r row j p hr hj=>by
    have h1:=hc r row j p hr hj
    have hlt : r * k + j < xs.size:=by
     have:=(List.getElem?_eq_some_iff.1 h1).1
     omega
    have hx : xs[r * k + j]? = some xs[r * k + j]:=Array.getElem?_eq_getElem hlt
    have hd : xs.getD (r * k + j) undef = xs[r * k + j]:=by simp [hlt]
    rw [Nat.zero_add,show zBf w _ _ = xs[r * k + j]? from zBB hheap _,hd]
    exact ⟨hx,ih r row j p hr hj (hcs _ _ _ h1 hx).up⟩
   exact .sl (off:=0) (fun r j=>xs.getD (r * k + j) undef) (Nat.le_refl _) h4 hw (fun r row j p hr hj=>(key r row j p hr hj).1) (fun r row j p hr hj=>(key r row j p hr hj).2)
inductive LentA (S : ASt) : AV -> AV -> Prop
 | p {v : AV} {q : PV} : Lent S v q -> LentA S v (.p q)
 | agg {l : List (AV × PV)} : (∀ c ∈ l,Lent S c.1 c.2) -> LentA S (.agg (l.map (·.1))) (.agg (l.map fun c=>.p c.2))
theorem LentA.ra {S : ASt} {Pr : Prot} {φ : Fi2} {w : World} (hR : Rel Pr φ S w) {v v' : AV} (h : LentA S v v') {x : Value} (hx : RA Pr φ v x) : RA (zBf w) [[]] v' x:=by
 cases h with
 | p h=>exact .p (h.rp hR hx)
 | @agg l h =>
  cases hx with
  | agg h1 h2 =>
   refine .agg (by simpa using h1) fun j c x hc hx=>?_
   rw [List.getElem?_map] at hc
   obtain ⟨q,hq,rfl⟩:=Option.map_eq_some_iff.1 hc
   exact .p ((h q (List.mem_of_getElem? hq)).rp hR (h2 j q.1 x (by rw [List.getElem?_map,hq]; rfl) hx))
inductive LentL (S : ASt) : List AV -> List AV -> Prop
 | nil : LentL S [] []
 | cons {a b : AV} {al bl : List AV} : LentA S a b -> LentL S al bl -> LentL S (a :: al) (b :: bl)
theorem LentL.rl {S : ASt} {Pr : Prot} {φ : Fi2} {w : World} (hR : Rel Pr φ S w) {al bl : List AV} (h : LentL S al bl) : al.length = bl.length /\ ∀ (j : Nat) (b : AV) (x : Value),bl[j]? = some b -> (∀ a,al[j]? = some a -> RA Pr φ a x) -> RA (zBf w) [[]] b x:=by
 induction h with
 | nil=>exact ⟨rfl,fun j b x h=>by simp at h⟩
 | cons h1 _ ih =>
  refine ⟨by simp [ih.1],fun j b x hb ha=>?_⟩
  cases j with
  | zero=>simp at hb; subst hb; exact h1.ra hR (ha _ rfl)
  | succ j=>exact ih.2 j b x (by simpa using hb) fun a h=>ha a (by simpa using h)
theorem zMN {S : ASt} {Pr : Prot} {φ : Fi2} {w : World} (hR : Rel Pr φ S w) : zIS (zBf w) [[]] w:=fun g cs hm=>by
 obtain ⟨h0,h1,h2,_⟩:=hR.tb g cs hm
 exact ⟨h0,fun j x hx=>hR.pr _ _ _ (h1 j x hx),h2,fun d i e he=>by
  cases d with
  | zero=>simp [get2] at he
  | succ d=>simp [get2] at he⟩
theorem ADet.lend {P : Program} {K : FuncId} {args args' : List AV} {S : ASt} {x : Value} (hx : atom x = true) (h : ADet P K args' [[]] (.p (.v x)) [[]]) (hl : LentL S args args') : ADet P K args S (.p (.v x)) S :=
 ADet.of_calls hx h.1 fun Pr φ xs w hargs hR=>by
  have hrl:=hl.rl hR
  refine (ADet.calls (Pr:=zBf w) h (xs:=xs) (w:=w) ⟨hrl.1 ▸ hargs.1,fun j c y hc hy=>hrl.2 j c y hc fun a ha=>hargs.2 j a y ha hy⟩ (fun b o v h=>h) (zMN hR)).mono fun e w' hp=>?_
  obtain ⟨y,Pr',rfl,_,⟨φ',hy⟩,hb⟩:=hp
  rw [zP hy rfl];exact ⟨rfl,hb⟩
theorem Lent.row {S : ASt} {d i n k : Nat} {E : TypeId} {css : List (List AV)} {rows : List (List PV)} (hS : get2 S d i = some (.row E k n css.flatten)) (hl : rows.length = n) (hl2 : css.length = n)
  (hc : ∀ (r : Nat) (cs : List AV) (row : List PV),css[r]? = some cs -> rows[r]? = some row -> cs.length = k /\ row.length = k /\ ∀ (j : Nat) (c : AV) (q : PV),cs[j]? = some c -> row[j]? = some q -> Lent S (c.up d) q) : Lent S (.rsl d i n k) (.sl k rows):=by
 have hlen : ∀ cs ∈ css,cs.length = k:=fun cs hm=>by
  obtain ⟨r,hr,rfl⟩:=List.getElem_of_mem hm
  exact (hc r _ rows[r] (List.getElem?_eq_getElem hr) (List.getElem?_eq_getElem (by omega))).1
 have flat : ∀ (css : List (List AV)),(∀ cs ∈ css,cs.length = k) -> ∀ (r : Nat) (cs : List AV) (j : Nat) (c : AV),css[r]? = some cs -> cs[j]? = some c -> css.flatten[r * k + j]? = some c:=by
  intro css
  induction css with
  | nil=>intro _ r cs j c h; simp at h
  | cons a al ih =>
   intro hk r cs j c hr hj;rw [List.flatten_cons]
   have ha:=hk a (by simp)
   cases r with
   | zero =>
    simp at hr;subst hr;rw [Nat.zero_mul,Nat.zero_add,List.getElem?_append_left (List.getElem?_eq_some_iff.1 hj).1]
    exact hj
   | succ r =>
    rw [List.getElem?_append_right (by rw [ha,Nat.add_mul]; omega),ha]
    have e : (r + 1) * k + j - k = r * k + j:=by rw [Nat.add_mul]; omega
    rw [e];exact ih (fun cs hm=>hk cs (List.mem_cons_of_mem _ hm)) r cs j c (by simpa using hr) hj
 refine .rsl (fun o=>css.flatten.getD o .any) hS hl (fun r row hr=>?_) (fun r row j q hr hj=>?_) fun r row j q hr hj=>?_
 .have hlt : r < css.length:=by have:=(List.getElem?_eq_some_iff.1 hr).1; omega
  exact (hc r _ row (List.getElem?_eq_getElem hlt) hr).2.1
 all_goals
  have hlt : r < css.length:=by have:=(List.getElem?_eq_some_iff.1 hr).1; omega
  obtain ⟨h1,h2,h3⟩:=hc r _ row (List.getElem?_eq_getElem hlt) hr
  have hjl : j < css[r].length:=by have:=(List.getElem?_eq_some_iff.1 hj).1; omega
  have hf:=flat css hlen r _ j _ (List.getElem?_eq_getElem hlt) (List.getElem?_eq_getElem hjl)
  rw [List.getD,hf]
 .rfl
 .exact h3 j _ q (List.getElem?_eq_getElem hjl) hj
end Go.Proofs.YtlclonljdagpkaaGreatDoor
namespace Go.Proofs.YtlclonljdagpkaaGreatDoor
open Go.RowKit
noncomputable def ownPr (Pr : Prot) (φ : Fi2) (w : World) : Prot:=fun b o=>open Classical in if (∃ d i e,get2 φ d i = some e /\ e.blk = some b) then w.cell? ⟨b,o,none⟩ else Pr b o
def zZ9 (S : ASt) : ASt:=S.map fun L=>List.replicate L.length .dead
end Go.Proofs.YtlclonljdagpkaaGreatDoor
namespace Go.Proofs.YtlclonljdagpkaaGreatDoor
open Go.RowKit
theorem zL : ∀ l : List AV,wkR l l
 | []=>trivial
 | a :: l=>⟨.inr rfl,zL l⟩
theorem zD7 {o o' : AObj} {a b : List AObj} (h : wkL [o] [o']) (k : wkL a b) : wkL (o :: a) (o' :: b):=by
 cases o <;> cases o' <;> simp_all [wkL]
theorem zVd {A B : List AObj} (h : ∀ o ∈ A,wkL [o.cut A.length] [o]) : wkL (List.map (AObj.cut A.length) (List.take A.length (A ++ B))) A:=by
 rw [List.take_left]
 have key : ∀ (m : Nat) (A : List AObj),(∀ o ∈ A,wkL [o.cut m] [o]) -> wkL (A.map (AObj.cut m)) A:=by
  intro m A
  induction A with
  | nil=>intro _; exact trivial
  | cons o A ih=>intro hc; exact zD7 (hc o (by simp)) (ih fun o ho=>hc o (List.mem_cons_of_mem _ ho))
 exact key _ A h
theorem zIr {m : Nat} {o : AObj} (h : wkL [o.cut m] [o]) : wkL [o] [o]:=by
 cases o with
 | raw=>exact h.elim
 | dead=>trivial
 | cells=>exact ⟨⟨rfl,zL _⟩,trivial⟩
 | tok=>exact ⟨⟨rfl,rfl,rfl⟩,trivial⟩
 | map=>exact ⟨rfl,trivial⟩
 | row=>exact ⟨⟨⟨rfl,rfl,rfl⟩,zL _⟩,trivial⟩
theorem zCk {m : Nat} : ∀ {A : List AObj},(∀ o ∈ A,wkL [o.cut m] [o]) -> wkL A A
 | [],_=>trivial
 | o :: A,h=>zD7 (zIr (h o (by simp))) (zCk fun o ho=>h o (List.mem_cons_of_mem _ ho))
theorem zIs {A : List AObj} {N : Nat} {S : ASt} (hl : A.length = N) (h : ∀ o ∈ A,wkL [o.cut N] [o]) : wkT (trim N (A :: S)) (A :: S):=by
 subst hl
 have:=zVd (A:=A) (B:=[]) h
 rw [List.append_nil] at this;exact ⟨this,rfl⟩
theorem zXs {X Y : List AObj} {N : Nat} {S : ASt} (e : X = Y) (hl : Y.length = N) (h : ∀ o ∈ Y,wkL [o.cut N] [o]) : wkT (trim N (X :: S)) (Y :: S):=by
 subst e;exact zIs hl h
end Go.Proofs.YtlclonljdagpkaaGreatDoor
