/- A part of the proof. The statement is proved in the claim's last text. -/
import Derived.Test.YtfiohepfohhibaaDoorPMLt
set_option linter.unusedVariables false
set_option linter.unusedSimpArgs false
set_option maxRecDepth 100000
set_option maxHeartbeats 32000000
namespace Go.Proofs.YtfiohepfohhibaaDoor
open Go.RowKit
mutual
def AV.fz (i : Nat) (cs : List AV) : AV → AV
 | .ptr d j o=>if d = 0 ∧ j = i then .bx (cs.drop o) else .ptr d j o
 | .agg l=>.agg (AV.fzs i cs l)
 | .tup l=>.tup (AV.fzs i cs l)
 | .fn f la lb=>.fn f (AV.fzs i cs la) (AV.fzs i cs lb)
 | .any=>.any
 | .un=>.un
 | .bl=>.bl
 | .p q=>.p q
 | .mp d j=>.mp d j
 | .asl d j n k=>.asl d j n k
 | .rsl d j n k=>.rsl d j n k
 | .rptr d j n o=>.rptr d j n o
 | .rp l=>.rp l
 | .bx l=>.bx (AV.fzs i cs l)
 | .osl k rows d j=>.osl k rows d j
def AV.fzs (i : Nat) (cs : List AV) : List AV → List AV
 | []=>[]
 | c :: l=>c.fz i cs :: AV.fzs i cs l
end
theorem fzs_get (i : Nat) (cs : List AV) : ∀ (l : List AV) (j : Nat),(AV.fzs i cs l)[j]? = (l[j]?).map (AV.fz i cs)
 | [],j=>by simp [AV.fzs]
 | c :: l,0=>by simp [AV.fzs]
 | c :: l,j + 1=>by simp [AV.fzs,fzs_get i cs l j]
theorem fzs_len (i : Nat) (cs : List AV) (l : List AV) : (AV.fzs i cs l).length = l.length:=by
 induction l with
 | nil=>rfl
 | cons c l ih=>simp [AV.fzs,ih]
def Fzn (Pr : Prot) (φ : Fi2) (i : Nat) (cs : List AV) : Prop:=∃ (e : Ent) (g : Nat) (vs : Nat → Value),get2 φ 0 i = some e ∧ e.blk = some g ∧ (∀ (j : Nat) (p : AV),cs[j]? = some p → Pr g j = some (vs j)) ∧ ∀ (j : Nat) (p : AV),cs[j]? = some p → RA Pr φ p (vs j)
theorem RA.fz {Pr : Prot} {φ : Fi2} {i : Nat} {cs : List AV} (hz : Fzn Pr φ i cs) {v : AV} {x : Value} (h : RA Pr φ v x) : RA Pr φ (v.fz i cs) x:=by
 induction h with
 | any x=>exact .any x
 | un=>exact .un
 | bl b=>exact .bl b
 | p h=>exact .p h
 | @ptr d j o g e h1 h2 h3 =>
  unfold AV.fz
  split
  ·rename_i hc
   obtain ⟨rfl,rfl⟩:=hc
   obtain ⟨e',g',vs,k1,k2,k3,k4⟩:=hz
   rw [h1] at k1; cases k1
   rw [h3] at k2; cases k2
   exact .bx (fun j=>vs (o + j)) (fun j p hp=>k3 _ _ (by rw [List.getElem?_drop] at hp; exact hp)) (fun j p hp=>k4 _ _ (by rw [List.getElem?_drop] at hp; exact hp))
  ·exact .ptr h1 h2 h3
 | mp h1 h2 h3=>exact .mp h1 h2 h3
 | asl h1 h2 h3 h4=>exact .asl h1 h2 h3 h4
 | rnil h1 h2 h3=>exact .rnil h1 h2 h3
 | rsl h1 h2 h3 h4 h5 h6 h7=>exact .rsl h1 h2 h3 h4 h5 h6 h7
 | rptr h1 h2 h3 h4=>exact .rptr h1 h2 h3 h4
 | rp vs h1 h2=>exact .rp vs h1 h2
 | bx vs h1 _ ih =>
  refine .bx vs (fun j c hc=>?_) (fun j c hc=>?_)
  ·rw [fzs_get] at hc
   obtain ⟨c',h,rfl⟩:=Option.map_eq_some_iff.1 hc
   exact h1 j c' h
  ·rw [fzs_get] at hc
   obtain ⟨c',h,rfl⟩:=Option.map_eq_some_iff.1 hc
   exact ih j c' h
 | onil h1 h2 h3=>exact .onil h1 h2 h3
 | osl vs h1 h2 h3 h4 h5 h6 h7 h8 h9 h10=>exact .osl vs h1 h2 h3 h4 h5 h6 h7 h8 h9 h10
 | agg h1 _ ih =>
  refine .agg (by rw [fzs_len]; exact h1) fun j c x hc hx=>?_
  rw [fzs_get] at hc
  obtain ⟨c',h,rfl⟩:=Option.map_eq_some_iff.1 hc
  exact ih j c' x h hx
 | tup h1 _ ih =>
  refine .tup (by rw [fzs_len]; exact h1) fun j c x hc hx=>?_
  rw [fzs_get] at hc
  obtain ⟨c',h,rfl⟩:=Option.map_eq_some_iff.1 hc
  exact ih j c' x h hx
 | fn h1 h2 _ _ ih1 ih2 =>
  refine .fn (by rw [fzs_len]; exact h1) (by rw [fzs_len]; exact h2) (fun j c x hc hx=>?_) (fun j c x hc hx=>?_)
  ·rw [fzs_get] at hc
   obtain ⟨c',h,rfl⟩:=Option.map_eq_some_iff.1 hc
   exact ih1 j c' x h hx
  ·rw [fzs_get] at hc
   obtain ⟨c',h,rfl⟩:=Option.map_eq_some_iff.1 hc
   exact ih2 j c' x h hx
def FzOk (S : ASt) : List (Nat × List AV × TypeId) → AV → Option AV
 | [],v=>some v
 | (i,cs,t) :: l,v=>FzOk (set2 S 0 i .dead) l (v.fz i cs)
def FzHas (S : ASt) : List (Nat × List AV × TypeId) → Prop
 | []=>True
 | (i,cs,t) :: l=>get2 S 0 i = some (.cells cs t) ∧ FzHas (set2 S 0 i .dead) l
def RetFz (P : Program) (rs : List ResultVar) (l : List (Nat × List AV × TypeId)) (r : AV) (S' : ASt) : Exit → List AV → ASt → Prop:=fun e fr S1 =>
 (e = .normal ∨ e = .ret) ∧ ∃ vs,resA P fr S1 rs = some vs ∧ FzHas S1 l ∧ ((FzOk S1 l (retA vs)).bind (AV.down 1)) = some r ∧ S1.tail = S'
theorem retFz_eq (P : Program) (rs : List ResultVar) (l : List (Nat × List AV × TypeId)) (r : AV) (e : Exit) (fr : List AV) (S S1 : ASt) : RetFz P rs l r S e fr S1 = ((e = .normal ∨ e = .ret) ∧ ∃ vs,resA P fr S1 rs = some vs ∧ FzHas S1 l ∧ ((FzOk S1 l (retA vs)).bind (AV.down 1)) = some r ∧ S1.tail = S):=by rw [RetFz]
attribute [simp] retFz_eq
end Go.Proofs.YtfiohepfohhibaaDoor
namespace Go.Proofs.YtfiohepfohhibaaDoor
open Go.RowKit
mutual
def AV.mrg (n : Nat) : AV → AV
 | .ptr 0 i o=>.ptr 0 (n + i) o
 | .ptr 1 i o=>.ptr 0 i o
 | .ptr (d + 2) i o=>.ptr (d + 1) i o
 | .mp 0 i=>.mp 0 (n + i)
 | .mp 1 i=>.mp 0 i
 | .mp (d + 2) i=>.mp (d + 1) i
 | .asl 0 i m k=>.asl 0 (n + i) m k
 | .asl 1 i m k=>.asl 0 i m k
 | .asl (d + 2) i m k=>.asl (d + 1) i m k
 | .rsl 0 i m k=>.rsl 0 (n + i) m k
 | .rsl 1 i m k=>.rsl 0 i m k
 | .rsl (d + 2) i m k=>.rsl (d + 1) i m k
 | .rptr 0 i m o=>.rptr 0 (n + i) m o
 | .rptr 1 i m o=>.rptr 0 i m o
 | .rptr (d + 2) i m o=>.rptr (d + 1) i m o
 | .osl k rows 0 i=>.osl k rows 0 (n + i)
 | .osl k rows 1 i=>.osl k rows 0 i
 | .osl k rows (d + 2) i=>.osl k rows (d + 1) i
 | .agg cs=>.agg (AV.mrgs n cs)
 | .tup cs=>.tup (AV.mrgs n cs)
 | .fn f a b=>.fn f (AV.mrgs n a) (AV.mrgs n b)
 | .bx cs=>.bx (AV.mrgs n cs)
 | .any=>.any
 | .un=>.un
 | .bl=>.bl
 | .p q=>.p q
 | .rp cs=>.rp cs
def AV.mrgs (n : Nat) : List AV → List AV
 | []=>[]
 | c :: cs=>c.mrg n :: AV.mrgs n cs
end
theorem mrgs_map (n : Nat) : ∀ cs : List AV,AV.mrgs n cs = cs.map (AV.mrg n)
 | []=>rfl
 | c :: cs=>by simp [AV.mrgs,mrgs_map n cs]
theorem mrgs_get (n : Nat) (cs : List AV) (j : Nat) : (AV.mrgs n cs)[j]? = (cs[j]?).map (AV.mrg n):=by rw [mrgs_map,List.getElem?_map]
theorem mrgs_len (n : Nat) (cs : List AV) : (AV.mrgs n cs).length = cs.length:=by rw [mrgs_map,List.length_map]
def mrgD : Nat → Nat
 | 0=>0
 | d + 1=>d
def mrgI (n : Nat) : Nat → Nat → Nat
 | 0,i=>n + i
 | _ + 1,i=>i
theorem get2_mrg {α : Type} {l1 l : List α} {φ : List (List α)} {d i : Nat} {e : α} (h : get2 (l1 :: l :: φ) d i = some e) : get2 ((l ++ l1) :: φ) (mrgD d) (mrgI l.length d i) = some e:=by
 match d,h with
 | 0,h =>
  have h' : l1[i]? = some e:=h
  show (l ++ l1)[l.length + i]? = some e
  rw [List.getElem?_append_right (by omega),Nat.add_sub_cancel_left]; exact h'
 | 1,h =>
  have h' : l[i]? = some e:=h
  show (l ++ l1)[i]? = some e
  rw [List.getElem?_append_left (List.getElem?_eq_some_iff.1 h').1]; exact h'
 | d + 2,h=>exact h
theorem RA.mrg {Pr : Prot} {l1 l : List Ent} {φ : Fi2} {v : AV} {x : Value} (h : RA Pr (l1 :: l :: φ) v x) : RA Pr ((l ++ l1) :: φ) (v.mrg l.length) x:=by
 induction h with
 | any x=>exact .any x
 | un=>exact .un
 | bl b=>exact .bl b
 | p h=>exact .p h
 | @ptr d i o g e h1 h2 h3 =>
  have:=get2_mrg h1
  match d,this with
  | 0,this=>exact .ptr this h2 h3
  | 1,this=>exact .ptr this h2 h3
  | d + 2,this=>exact .ptr this h2 h3
 | @mp d i g e h1 h2 h3 =>
  have:=get2_mrg h1
  match d,this with
  | 0,this=>exact .mp this h2 h3
  | 1,this=>exact .mp this h2 h3
  | d + 2,this=>exact .mp this h2 h3
 | @asl d i n k g e h1 h2 h3 h4 =>
  have:=get2_mrg h1
  match d,this with
  | 0,this=>exact .asl this h2 h3 h4
  | 1,this=>exact .asl this h2 h3 h4
  | d + 2,this=>exact .asl this h2 h3 h4
 | @rnil d i e h1 h2 h3 =>
  have:=get2_mrg h1
  match d,this with
  | 0,this=>exact .rnil this h2 h3
  | 1,this=>exact .rnil this h2 h3
  | d + 2,this=>exact .rnil this h2 h3
 | @rsl d i n g cap e h1 h2 h3 h4 h5 h6 h7 =>
  have:=get2_mrg h1
  match d,this with
  | 0,this=>exact .rsl this h2 h3 h4 h5 h6 h7
  | 1,this=>exact .rsl this h2 h3 h4 h5 h6 h7
  | d + 2,this=>exact .rsl this h2 h3 h4 h5 h6 h7
 | @rptr d i n o g e h1 h2 h3 h4 =>
  have:=get2_mrg h1
  match d,this with
  | 0,this=>exact .rptr this h2 h3 h4
  | 1,this=>exact .rptr this h2 h3 h4
  | d + 2,this=>exact .rptr this h2 h3 h4
 | rp vs h1 h2=>exact .rp vs h1 h2
 | bx vs h1 _ ih =>
  refine .bx vs (fun j c hc=>?_) (fun j c hc=>?_)
  ·rw [mrgs_get] at hc
   obtain ⟨c',h,rfl⟩:=Option.map_eq_some_iff.1 hc
   exact h1 j c' h
  ·rw [mrgs_get] at hc
   obtain ⟨c',h,rfl⟩:=Option.map_eq_some_iff.1 hc
   exact ih j c' h
 | @onil d i e h1 h2 h3 =>
  have:=get2_mrg h1
  match d,this with
  | 0,this=>exact .onil this h2 h3
  | 1,this=>exact .onil this h2 h3
  | d + 2,this=>exact .onil this h2 h3
 | @osl rows d i g cap e vs h1 h2 h3 h4 h5 h6 h7 h8 h9 h10 =>
  have:=get2_mrg h1
  match d,this with
  | 0,this=>exact .osl vs this h2 h3 h4 h5 h6 h7 h8 h9 h10
  | 1,this=>exact .osl vs this h2 h3 h4 h5 h6 h7 h8 h9 h10
  | d + 2,this=>exact .osl vs this h2 h3 h4 h5 h6 h7 h8 h9 h10
 | agg h1 _ ih =>
  refine .agg (by rw [mrgs_len]; exact h1) fun j c x hc hx=>?_
  rw [mrgs_get] at hc
  obtain ⟨c',h,rfl⟩:=Option.map_eq_some_iff.1 hc
  exact ih j c' x h hx
 | tup h1 _ ih =>
  refine .tup (by rw [mrgs_len]; exact h1) fun j c x hc hx=>?_
  rw [mrgs_get] at hc
  obtain ⟨c',h,rfl⟩:=Option.map_eq_some_iff.1 hc
  exact ih j c' x h hx
 | fn h1 h2 _ _ ih1 ih2 =>
  refine .fn (by rw [mrgs_len]; exact h1) (by rw [mrgs_len]; exact h2) (fun j c x hc hx=>?_) (fun j c x hc hx=>?_)
  ·rw [mrgs_get] at hc
   obtain ⟨c',h,rfl⟩:=Option.map_eq_some_iff.1 hc
   exact ih1 j c' x h hx
  ·rw [mrgs_get] at hc
   obtain ⟨c',h,rfl⟩:=Option.map_eq_some_iff.1 hc
   exact ih2 j c' x h hx
def AObj.mrg (n : Nat) : AObj → AObj
 | .cells cs t=>.cells (AV.mrgs n cs) t
 | .tok e k m=>.tok e k m
 | .row e k m cs=>.row e k m (AV.mrgs n cs)
 | .map es=>.map (es.map fun kv=>(kv.1,kv.2.mrg n))
 | .dead=>.dead
 | .raw _ _ _ _=>.dead
theorem RelO.mrg {Pr : Prot} {l1 l : List Ent} {φ : Fi2} {w : World} {o : AObj} {e : Ent} (h : RelO Pr (l1 :: l :: φ) w o e) : RelO Pr ((l ++ l1) :: φ) w (o.mrg l.length) e:=by
 cases o with
 | dead=>trivial
 | raw=>trivial
 | tok=>exact h
 | cells cs t =>
  obtain ⟨h0,g,xs,h1,h2,h3,h4,h5⟩:=h
  refine ⟨h0,g,xs,h1,h2,by rw [mrgs_len]; exact h3,fun j c x a b=>?_,h5⟩
  rw [mrgs_get] at a
  obtain ⟨c',h,rfl⟩:=Option.map_eq_some_iff.1 a
  exact (h4 j c' x h b).mrg
 | row E k n cs =>
  obtain ⟨h0,h1,h2,h3,h5,h4⟩:=h
  refine ⟨h0,h1,h2,h3,by rw [mrgs_len]; exact h5,h4.imp id ?_⟩
  rintro ⟨g,xs,a,b,c,d,e1,f,q,i⟩
  refine ⟨g,xs,a,b,c,d,e1,f,fun j c x u v=>?_,i⟩
  rw [mrgs_get] at u
  obtain ⟨c',h,rfl⟩:=Option.map_eq_some_iff.1 u
  exact (q j c' x h v).mrg
 | map es =>
  obtain ⟨h0,g,ents,clock,h1,h2,h3,h4,h5,h6⟩:=h
  refine ⟨h0,g,ents,clock,h1,h2,by simpa using h3,fun j kv en a b=>?_,h5,h6⟩
  rw [List.getElem?_map] at a
  obtain ⟨kv',h,rfl⟩:=Option.map_eq_some_iff.1 a
  exact ⟨(h4 j kv' en h b).1,(h4 j kv' en h b).2.mrg⟩
def RetMrg (P : Program) (rs : List ResultVar) (r : AV) (S' : ASt) : Exit → List AV → ASt → Prop:=fun e fr S1 =>
 (e = .normal ∨ e = .ret) ∧ ∃ vs,resA P fr S1 rs = some vs ∧ ∃ L1 L R,S1 = L1 :: L :: R ∧ (retA vs).mrg L.length = r ∧ (L ++ L1.map (AObj.mrg L.length)) :: R = S'
theorem retMrg_eq (P : Program) (rs : List ResultVar) (r : AV) (e : Exit) (fr : List AV) (L1 L : List AObj) (R S' : ASt) : RetMrg P rs r S' e fr (L1 :: L :: R) = ((e = .normal ∨ e = .ret) ∧ ∃ vs,resA P fr (L1 :: L :: R) rs = some vs ∧ (retA vs).mrg L.length = r ∧ (L ++ L1.map (AObj.mrg L.length)) :: R = S'):=by
 unfold RetMrg
 apply propext
 constructor
 ·rintro ⟨h,vs,h1,L1',L',R',h2,h3,h4⟩
  cases h2
  exact ⟨h,vs,h1,h3,h4⟩
 ·rintro ⟨h,vs,h1,h3,h4⟩
  exact ⟨h,vs,h1,_,_,_,rfl,h3,h4⟩
attribute [simp] retMrg_eq
end Go.Proofs.YtfiohepfohhibaaDoor
namespace Go.Proofs.YtfiohepfohhibaaDoor
open Go.RowKit
def SWP (P : Program) (c : Code) (fr : List AV) (S : ASt) (Q : Exit → List AV → ASt → Prop) : Prop:=∀ Pr φ a w,RF Pr φ fr a → Rel Pr φ S w → φ ≠ [] → c.wp P (Post Pr φ a w Q) a w
def SeqS (P : Program) (b : Code) (Q : Exit → List AV → ASt → Prop) (e : Exit) (fr : List AV) (S : ASt) : Prop:=match e with | .normal=>SWP P b fr S Q | e=>Q e fr S
section
variable {P : Program} {fr : List AV} {S : ASt} {Q : Exit → List AV → ASt → Prop}
theorem seqS_normal (b : Code) : SeqS P b Q .normal fr S = SWP P b fr S Q:=rfl
theorem seqS_ret (b : Code) : SeqS P b Q .ret fr S = Q .ret fr S:=rfl
theorem SWP.of_awp {c : Code} (hm : P.follows .mixedOrders = true) (h : awp P c fr S Q) : SWP P c fr S Q:=fun Pr φ a w h1 h2 h3=>awp_ok hm c Q Pr φ fr a S w h1 h2 h3 h
theorem SWP.seq {x y : Code} (h : SWP P x fr S (SeqS P y Q)) : SWP P (.seq x y) fr S Q:=fun Pr φ a w h1 h2 h3=>by
 refine wp_seq (wp_mono (h Pr φ a w h1 h2 h3) fun e a' w' hp=>?_)
 obtain ⟨fr',S',Pr',φ',k1,k2,k3,k4,k5⟩:=hp
 cases e with
 | normal=>exact wp_mono ((show SWP P y fr' S' Q from k1) Pr' φ' a' w' k2 k3 (ne_of_stp k4 h3)) fun e a'' w'' hp=>Post.trans k4 k5 e a'' w'' hp
 | _=>exact ⟨fr',S',Pr',φ',k1,k2,k3,k4,k5⟩
theorem SWP.block {id : Nat} {x : Code} (h : SWP P x fr S (BlkQ id Q)) : SWP P (.block id x) fr S Q:=fun Pr φ a w h1 h2 h3=>by
 refine wp_block (wp_mono (h Pr φ a w h1 h2 h3) fun e a' w' hp=>?_)
 obtain ⟨fr',S',Pr',φ',k1,k2,k3,k4,k5⟩:=hp
 cases e with
 | exit j =>
  simp only [BlkQ] at k1
  simp only [Exit.inBlock]
  split
  ·rename_i hj
   rw [if_pos hj] at k1
   exact ⟨fr',S',Pr',φ',k1,k2,k3,k4,k5⟩
  ·rename_i hj
   rw [if_neg hj] at k1
   exact ⟨fr',S',Pr',φ',k1,k2,k3,k4,k5⟩
 | _=>exact ⟨fr',S',Pr',φ',k1,k2,k3,k4,k5⟩
end
theorem ADet.introS {P : Program} {K : FuncId} {args : List AV} {S S' : ASt} {r : AV} {fn : Func} {c : Code} (hK : ∀ xs w,(callFunc K xs).run P w = .ok (.enter K xs) w) (hf : P.funcs[K]? = some fn) (hb : fn.body = some c)
  (h : SWP P c (AV.ups 1 args ++ List.replicate (fn.ntmps - args.length) .un) ([] :: S) (RetOk P fn.results.toList r S')) : ADet P K args S r S':=by
 refine ⟨hK,fun Pr φ xs w hargs hR hne=>?_⟩
 refine calls_of_wp hf hb ?_
 have hfr : RF Pr ([] :: φ) (AV.ups 1 args ++ List.replicate (fn.ntmps - args.length) .un) { tmps:=xs ++ Array.replicate (fn.ntmps - xs.size) undef,defers:=[] }:=by
  refine ⟨by simp [ups_len,hargs.1],fun t v x hv hx=>?_⟩
  rcases Nat.lt_or_ge t args.length with ht | ht
  ·rw [List.getElem?_append_left (by rw [ups_len]; exact ht),ups_get] at hv
   obtain ⟨v0,h0,rfl⟩:=Option.map_eq_some_iff.1 hv
   simp only at hx
   rw [Array.getElem?_append_left (by rw [← hargs.1]; exact ht)] at hx
   exact RA.up (k:=1) (hargs.2 t v0 x h0 hx)
  ·rw [List.getElem?_append_right (by rw [ups_len]; exact ht)] at hv
   simp only at hx
   rw [Array.getElem?_append_right (by rw [← hargs.1]; exact ht)] at hx
   rw [List.getElem?_replicate] at hv
   rw [Array.getElem?_replicate] at hx
   split at hv
   ·split at hx
    ·cases hv; cases hx; exact .un
    ·cases hx
   ·cases hv
 refine wp_mono (h Pr ([] :: φ) _ w hfr (rel_push hR) (by simp)) fun e a' w' hp=>?_
 obtain ⟨fr',S1,Pr',φ',⟨he,vs,h1,h2,h3⟩,h4,h5,h6,h7⟩:=hp
 obtain ⟨x,hx,hrun⟩:=results_ok (P:=P) (fn:=fn) h4 h5 h1
 have hne' : φ' ≠ []:=ne_of_stp h6 (by simp)
 obtain ⟨l',φ1,rfl⟩:=List.exists_cons_of_ne_nil hne'
 have hS1 : S1 ≠ []:=fun h0=>by have:=h5.shape; rw [h0] at this; simp at this
 obtain ⟨L',S2,rfl⟩:=List.exists_cons_of_ne_nil hS1
 simp only [List.tail_cons] at h3
 subst h3
 have key : a'.defers = [] ∧ ∃ v,(results fn a'.tmps).run P w' = .ok v w' ∧ ∃ x Pr' φ',Ending.returned v = .returned x ∧ Stp Pr φ w Pr' φ' w' ∧ Rel Pr' φ' S2 w' ∧ RA Pr' φ' r x :=
  ⟨h7,x,hrun,x,Pr',φ1,rfl,stp_pop h6,rel_pop h5,hx.down r h2⟩
 rcases he with rfl | rfl
 ·exact key
 ·exact key
end Go.Proofs.YtfiohepfohhibaaDoor
