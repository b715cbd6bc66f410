/- 8 texts of this proof, one behind the other: AlMg AlMw AlLd AlLf AlWk CpR CpS CpT. The statement is proved in the claim's last text. -/
import Derived.Test.YtlfgjnnecglleaaMLt
import Derived.Test.YtlfgjnnecglleaaMWp
import Derived.Test.YtlfgjnnecglleaaMCp
namespace Go.Proofs.Ytlfgjnnecglleaa
open Go.RowKit
set_option linter.unusedVariables false

mutual
/-- the value, seen from the caller's level behind whose n objects the call's are laid -/
def AV.mrg (n : Nat) : AV → AV
  | .ptr 0 i o => .ptr 0 (n + i) o
  | .ptr 1 i o => .ptr 0 i o
  | .ptr (d + 2) i o => .ptr (d + 1) i o
  | .mp 0 i => .mp 0 (n + i)
  | .mp 1 i => .mp 0 i
  | .mp (d + 2) i => .mp (d + 1) i
  | .asl 0 i m k => .asl 0 (n + i) m k
  | .asl 1 i m k => .asl 0 i m k
  | .asl (d + 2) i m k => .asl (d + 1) i m k
  | .rsl 0 i m k => .rsl 0 (n + i) m k
  | .rsl 1 i m k => .rsl 0 i m k
  | .rsl (d + 2) i m k => .rsl (d + 1) i m k
  | .rptr 0 i m o => .rptr 0 (n + i) m o
  | .rptr 1 i m o => .rptr 0 i m o
  | .rptr (d + 2) i m o => .rptr (d + 1) i m o
  | .osl k rows 0 i => .osl k rows 0 (n + i)
  | .osl k rows 1 i => .osl k rows 0 i
  | .osl k rows (d + 2) i => .osl k rows (d + 1) i
  | .agg cs => .agg (AV.mrgs n cs)
  | .tup cs => .tup (AV.mrgs n cs)
  | .fn f a b => .fn f (AV.mrgs n a) (AV.mrgs n b)
  | .any => .any
  | .un => .un
  | .bl => .bl
  | .p q => .p q
  | .rp cs => .rp cs
def AV.mrgs (n : Nat) : List AV → List AV
  | [] => []
  | c :: cs => c.mrg n :: AV.mrgs n cs
end
theorem mrgs_map (n : Nat) : ∀ cs : List AV, AV.mrgs n cs = cs.map (AV.mrg n)
  | [] => rfl
  | c :: cs => by simp [AV.mrgs, mrgs_map n cs]
theorem mrgs_get (n : Nat) (cs : List AV) (j : Nat) : (AV.mrgs n cs)[j]? = (cs[j]?).map (AV.mrg n) := by rw [mrgs_map, List.getElem?_map]
theorem mrgs_len (n : Nat) (cs : List AV) : (AV.mrgs n cs).length = cs.length := by rw [mrgs_map, List.length_map]
/-- where an entry goes -/
def mrgD : Nat → Nat
  | 0 => 0
  | d + 1 => d
def mrgI (n : Nat) : Nat → Nat → Nat
  | 0, i => n + i
  | _ + 1, i => i
theorem get2_mrg {α : Type} {l1 l : List α} {φ : List (List α)} {d i : Nat} {e : α} (h : get2 (l1 :: l :: φ) d i = some e) : get2 ((l ++ l1) :: φ) (mrgD d) (mrgI l.length d i) = some e := by
  match d, h with
  | 0, h =>
    have h' : l1[i]? = some e := h
    show (l ++ l1)[l.length + i]? = some e
    rw [List.getElem?_append_right (by omega), Nat.add_sub_cancel_left]; exact h'
  | 1, h =>
    have h' : l[i]? = some e := h
    show (l ++ l1)[i]? = some e
    rw [List.getElem?_append_left (List.getElem?_eq_some_iff.1 h').1]; exact h'
  | d + 2, h => exact h
theorem get2_mrg_inv {α : Type} {l1 l : List α} {φ : List (List α)} {d i : Nat} {e : α} (h : get2 ((l ++ l1) :: φ) d i = some e) : ∃ d' i', get2 (l1 :: l :: φ) d' i' = some e ∧ mrgD d' = d ∧ mrgI l.length d' i' = i := by
  match d, h with
  | 0, h =>
    have h' : (l ++ l1)[i]? = some e := h
    rcases Nat.lt_or_ge i l.length with hi | hi
    · rw [List.getElem?_append_left hi] at h'
      exact ⟨1, i, h', rfl, rfl⟩
    · rw [List.getElem?_append_right hi] at h'
      exact ⟨0, i - l.length, h', rfl, by show l.length + (i - l.length) = i; omega⟩
  | d + 1, h => exact ⟨d + 2, i, h, rfl, rfl⟩
theorem RA.mrg {Pr : Prot} {l1 l : List Ent} {φ : Fi2} {v : AV} {x : Value} (h : RA Pr (l1 :: l :: φ) v x) : RA Pr ((l ++ l1) :: φ) (v.mrg l.length) x := by
  induction h with
  | any x => exact .any x
  | un => exact .un
  | bl b => exact .bl b
  | p h => exact .p h
  | @ptr d i o g e h1 h2 h3 =>
    have := get2_mrg h1
    match d, this with
    | 0, this => exact .ptr this h2 h3
    | 1, this => exact .ptr this h2 h3
    | d + 2, this => exact .ptr this h2 h3
  | @mp d i g e h1 h2 h3 =>
    have := get2_mrg h1
    match d, this with
    | 0, this => exact .mp this h2 h3
    | 1, this => exact .mp this h2 h3
    | d + 2, this => exact .mp this h2 h3
  | @asl d i n k g e h1 h2 h3 h4 =>
    have := get2_mrg h1
    match d, this with
    | 0, this => exact .asl this h2 h3 h4
    | 1, this => exact .asl this h2 h3 h4
    | d + 2, this => exact .asl this h2 h3 h4
  | @rnil d i e h1 h2 h3 =>
    have := get2_mrg h1
    match d, this with
    | 0, this => exact .rnil this h2 h3
    | 1, this => exact .rnil this h2 h3
    | d + 2, this => exact .rnil this h2 h3
  | @rsl d i n g cap e h1 h2 h3 h4 h5 h6 h7 =>
    have := get2_mrg h1
    match d, this with
    | 0, this => exact .rsl this h2 h3 h4 h5 h6 h7
    | 1, this => exact .rsl this h2 h3 h4 h5 h6 h7
    | d + 2, this => exact .rsl this h2 h3 h4 h5 h6 h7
  | @rptr d i n o g e h1 h2 h3 h4 =>
    have := get2_mrg h1
    match d, this with
    | 0, this => exact .rptr this h2 h3 h4
    | 1, this => exact .rptr this h2 h3 h4
    | d + 2, this => exact .rptr this h2 h3 h4
  | rp vs h1 h2 => exact .rp vs h1 h2
  | @onil d i e h1 h2 h3 =>
    have := get2_mrg h1
    match d, this with
    | 0, this => exact .onil this h2 h3
    | 1, this => exact .onil this h2 h3
    | d + 2, this => exact .onil this h2 h3
  | @osl rows d i g cap e vs h1 h2 h3 h4 h5 h6 h7 h8 h9 h10 =>
    have := get2_mrg h1
    match d, this with
    | 0, this => exact .osl vs this h2 h3 h4 h5 h6 h7 h8 h9 h10
    | 1, this => exact .osl vs this h2 h3 h4 h5 h6 h7 h8 h9 h10
    | d + 2, this => exact .osl vs this h2 h3 h4 h5 h6 h7 h8 h9 h10
  | agg h1 _ ih =>
    refine .agg (by rw [mrgs_len]; exact h1) fun j c x hc hx => ?_
    rw [mrgs_get] at hc
    obtain ⟨c', h, rfl⟩ := Option.map_eq_some_iff.1 hc
    exact ih j c' x h hx
  | tup h1 _ ih =>
    refine .tup (by rw [mrgs_len]; exact h1) fun j c x hc hx => ?_
    rw [mrgs_get] at hc
    obtain ⟨c', h, rfl⟩ := Option.map_eq_some_iff.1 hc
    exact ih j c' x h hx
  | fn h1 h2 _ _ ih1 ih2 =>
    refine .fn (by rw [mrgs_len]; exact h1) (by rw [mrgs_len]; exact h2) (fun j c x hc hx => ?_) (fun j c x hc hx => ?_)
    · rw [mrgs_get] at hc
      obtain ⟨c', h, rfl⟩ := Option.map_eq_some_iff.1 hc
      exact ih1 j c' x h hx
    · rw [mrgs_get] at hc
      obtain ⟨c', h, rfl⟩ := Option.map_eq_some_iff.1 hc
      exact ih2 j c' x h hx
def AObj.mrg (n : Nat) : AObj → AObj
  | .cells cs t => .cells (AV.mrgs n cs) t
  | .tok e k m => .tok e k m
  | .row e k m cs => .row e k m (AV.mrgs n cs)
  | .map es => .map (es.map fun kv => (kv.1, kv.2.mrg n))
  | .dead => .dead
  | .raw _ _ _ _ => .dead
theorem RelO.mrg {Pr : Prot} {l1 l : List Ent} {φ : Fi2} {w : World} {o : AObj} {e : Ent} (h : RelO Pr (l1 :: l :: φ) w o e) : RelO Pr ((l ++ l1) :: φ) w (o.mrg l.length) e := by
  cases o with
  | dead => trivial
  | raw => trivial
  | tok => exact h
  | cells cs t =>
    obtain ⟨h0, g, xs, h1, h2, h3, h4, h5⟩ := h
    refine ⟨h0, g, xs, h1, h2, by rw [mrgs_len]; exact h3, fun j c x a b => ?_, h5⟩
    rw [mrgs_get] at a
    obtain ⟨c', h, rfl⟩ := Option.map_eq_some_iff.1 a
    exact (h4 j c' x h b).mrg
  | row E k n cs =>
    obtain ⟨h0, h1, h2, h3, h5, h4⟩ := h
    refine ⟨h0, h1, h2, h3, by rw [mrgs_len]; exact h5, h4.imp id ?_⟩
    rintro ⟨g, xs, a, b, c, d, e1, f, q, i⟩
    refine ⟨g, xs, a, b, c, d, e1, f, fun j c x u v => ?_, i⟩
    rw [mrgs_get] at u
    obtain ⟨c', h, rfl⟩ := Option.map_eq_some_iff.1 u
    exact (q j c' x h v).mrg
  | map es =>
    obtain ⟨h0, g, ents, clock, h1, h2, h3, h4, h5, h6⟩ := h
    refine ⟨h0, g, ents, clock, h1, h2, by simpa using h3, fun j kv en a b => ?_, h5, h6⟩
    rw [List.getElem?_map] at a
    obtain ⟨kv', h, rfl⟩ := Option.map_eq_some_iff.1 a
    exact ⟨(h4 j kv' en h b).1, (h4 j kv' en h b).2.mrg⟩
theorem fle_mrg (l l1 : List Ent) (φ : Fi2) : Fle (l :: φ) ((l ++ l1) :: φ) := fun d i e h => ⟨e, by
  cases d with
  | zero =>
    have h' : l[i]? = some e := h
    show (l ++ l1)[i]? = some e
    rw [List.getElem?_append_left (List.getElem?_eq_some_iff.1 h').1]; exact h'
  | succ d => exact h, e.le_refl⟩
theorem rel_mrg {Pr : Prot} {l1 l : List Ent} {φ : Fi2} {L1 L : List AObj} {R : ASt} {w : World} (h : Rel Pr (l1 :: l :: φ) (L1 :: L :: R) w) : Rel Pr ((l ++ l1) :: φ) ((L ++ L1.map (AObj.mrg L.length)) :: R) w := by
  have hs := h.shape
  simp only [List.map_cons, List.cons.injEq] at hs
  obtain ⟨hl1, hl, hsr⟩ := hs
  refine ⟨fun d i o ho => ?_, fun d i e d' i' e' g a b c f => ?_, fun d i e g a b => ?_, h.pr, fun g cs hm => ?_, ?_⟩
  · cases d with
    | succ d =>
      obtain ⟨e, k1, k2⟩ := h.obj (d + 2) i o ho
      exact ⟨e, k1, k2⟩
    | zero =>
      have ho' : (L ++ L1.map (AObj.mrg L.length))[i]? = some o := ho
      rcases Nat.lt_or_ge i L.length with hi | hi
      · rw [List.getElem?_append_left hi] at ho'
        obtain ⟨e, k1, k2⟩ := h.obj 1 i o ho'
        refine ⟨e, get2_mrg k1, RelO.keep (φ := l :: φ) k2 (Prot.le_refl _) (fle_mrg l l1 φ) fun g _ => ⟨rfl, fun _ h => h⟩⟩
      · rw [List.getElem?_append_right hi, List.getElem?_map] at ho'
        obtain ⟨o0, h0, rfl⟩ := Option.map_eq_some_iff.1 ho'
        obtain ⟨e, k1, k2⟩ := h.obj 0 (i - L.length) o0 h0
        refine ⟨e, ?_, ?_⟩
        · have := get2_mrg k1
          rw [show mrgI l.length 0 (i - L.length) = i by show l.length + (i - L.length) = i; omega] at this
          exact this
        · have k3 := RelO.mrg (l1 := l1) (l := l) (φ := φ) k2
          rw [hl] at k3
          exact k3
  · obtain ⟨d1, i1, a1, a2, a3⟩ := get2_mrg_inv a
    obtain ⟨d2, i2, b1, b2, b3⟩ := get2_mrg_inv b
    obtain ⟨rfl, rfl⟩ := h.dis _ _ _ _ _ _ g a1 b1 c f
    exact ⟨a2.symm.trans b2, a3.symm.trans b3⟩
  · obtain ⟨d1, i1, a1, a2, a3⟩ := get2_mrg_inv a
    exact h.lt _ _ _ g a1 b
  · obtain ⟨t1, t2, t3, t4⟩ := h.tb g cs hm
    exact ⟨t1, t2, t3, fun d i e a => by
      obtain ⟨d1, i1, a1, _, _⟩ := get2_mrg_inv a
      exact t4 _ _ _ a1⟩
  · simp [hl, hl1, hsr]
/-- what a body's end says, where the call's objects go over to its caller -/
def RetMrg (P : Program) (rs : List ResultVar) (r : AV) (S' : ASt) : Exit → List AV → ASt → Prop := fun e fr S1 =>
  (e = .normal ∨ e = .ret) ∧ ∃ vs, resA P fr S1 rs = some vs ∧ ∃ L1 L R, S1 = L1 :: L :: R ∧ (retA vs).mrg L.length = r ∧ (L ++ L1.map (AObj.mrg L.length)) :: R = S'
theorem retMrg_eq (P : Program) (rs : List ResultVar) (r : AV) (e : Exit) (fr : List AV) (L1 L : List AObj) (R S' : ASt) : RetMrg P rs r S' e fr (L1 :: L :: R) = ((e = .normal ∨ e = .ret) ∧ ∃ vs, resA P fr (L1 :: L :: R) rs = some vs ∧ (retA vs).mrg L.length = r ∧ (L ++ L1.map (AObj.mrg L.length)) :: R = S') := by
  unfold RetMrg
  apply propext
  constructor
  · rintro ⟨h, vs, h1, L1', L', R', h2, h3, h4⟩
    cases h2
    exact ⟨h, vs, h1, h3, h4⟩
  · rintro ⟨h, vs, h1, h3, h4⟩
    exact ⟨h, vs, h1, _, _, _, rfl, h3, h4⟩
attribute [simp] retMrg_eq
theorem ADet.merge {P : Program} {K : FuncId} {args : List AV} {S S' : ASt} {r : AV} {fn : Func} {c : Code} (hm : P.follows .mixedOrders = true) (hK : ∀ xs w, (callFunc K xs).run P w = .ok (.enter K xs) w) (hf : P.funcs[K]? = some fn) (hb : fn.body = some c)
    (h : awp P c (AV.ups 1 args ++ List.replicate (fn.ntmps - args.length) .un) ([] :: S) (RetMrg P fn.results.toList r S')) : ADet P K args S r S' := by
  refine ⟨hK, fun Pr φ xs w hargs hR hne => ?_⟩
  refine calls_of_wp hf hb ?_
  have hfr : RF Pr ([] :: φ) (AV.ups 1 args ++ List.replicate (fn.ntmps - args.length) .un) { tmps := xs ++ Array.replicate (fn.ntmps - xs.size) undef, defers := [] } := by
    refine ⟨by simp [ups_len, hargs.1], fun t v x hv hx => ?_⟩
    rcases Nat.lt_or_ge t args.length with ht | ht
    · rw [List.getElem?_append_left (by rw [ups_len]; exact ht), ups_get] at hv
      obtain ⟨v0, h0, rfl⟩ := Option.map_eq_some_iff.1 hv
      simp only at hx
      rw [Array.getElem?_append_left (by rw [← hargs.1]; exact ht)] at hx
      exact RA.up (k := 1) (hargs.2 t v0 x h0 hx)
    · rw [List.getElem?_append_right (by rw [ups_len]; exact ht)] at hv
      simp only at hx
      rw [Array.getElem?_append_right (by rw [← hargs.1]; exact ht)] at hx
      rw [List.getElem?_replicate] at hv
      rw [Array.getElem?_replicate] at hx
      split at hv
      · split at hx
        · cases hv; cases hx; exact .un
        · cases hx
      · cases hv
  refine wp_mono (awp_ok hm c _ Pr ([] :: φ) _ _ ([] :: S) w hfr (rel_push hR) (by simp) h) fun e a' w' hp => ?_
  obtain ⟨fr', S1, Pr', φ', ⟨he, vs, h1, L1, L, R, rfl, h2, h3⟩, h4, h5, h6, h7⟩ := hp
  obtain ⟨x, hx, hrun⟩ := results_ok (P := P) (fn := fn) h4 h5 h1
  have hne' : φ' ≠ [] := ne_of_stp h6 (by simp)
  obtain ⟨l1, φ0, rfl⟩ := List.exists_cons_of_ne_nil hne'
  have spop := stp_pop h6
  have hne0 : φ0 ≠ [] := fun h0 => by have := h5.shape; rw [h0] at this; simp at this
  obtain ⟨l, φ1, rfl⟩ := List.exists_cons_of_ne_nil hne0
  have hlen : l.length = L.length := by have := h5.shape; simp at this; exact this.2.1
  have hF := fle_mrg l l1 φ1
  have hS2 : Stp Pr φ w Pr' ((l ++ l1) :: φ1) w' := by
    refine ⟨spop.pl, spop.fl.trans hF, fun d i e g a b => ?_, spop.fr, ?_, spop.pn⟩
    · obtain ⟨d1, i1, a1, _, _⟩ := get2_mrg_inv a
      rcases h6.fresh _ _ _ g a1 b with ⟨d0, i0, e1, k1, k2⟩ | k1
      · cases d0 with
        | zero => simp [get2] at k1
        | succ d0 => exact .inl ⟨d0, i0, e1, k1, k2⟩
      · exact .inr k1
    · have := spop.len; simpa using this
  have hx2 := hx.mrg
  rw [hlen, h2] at hx2
  have hR2 := rel_mrg h5
  rw [h3] at hR2
  have key : a'.defers = [] ∧ ∃ v, (results fn a'.tmps).run P w' = .ok v w' ∧ ∃ x Pr' φ', Ending.returned v = .returned x ∧ Stp Pr φ w Pr' φ' w' ∧ Rel Pr' φ' S' w' ∧ RA Pr' φ' r x :=
    ⟨h7, x, hrun, x, Pr', _, rfl, hS2, hR2, hx2⟩
  rcases he with rfl | rfl
  · exact key
  · exact key
end Go.Proofs.Ytlfgjnnecglleaa

namespace Go.Proofs.Ytlfgjnnecglleaa
open Go.RowKit
set_option linter.unusedVariables false
theorem ADet.afterS {P : Program} {K : FuncId} {args : List AV} {S S' S'' : ASt} {r : AV} (hw : wkS S' S'') (h : ADet P K args S r S') : ADet P K args S r S'' :=
  ⟨h.1, fun Pr φ xs w hargs hR hne => (h.2 Pr φ xs w hargs hR hne).mono fun e w' hp => by
    obtain ⟨x, Pr', φ', h1, h2, h3, h4⟩ := hp
    exact ⟨x, Pr', φ', h1, h2, rel_wk h3 hw, h4⟩⟩
theorem wkS_app {L A B : List AObj} {R : ASt} (h : wkL A B) : wkS ((L ++ A) :: R) ((L ++ B) :: R) := by
  obtain ⟨h1, h2⟩ := wkL_ok h
  refine ⟨by simp [h1], fun d i o ho => ?_⟩
  cases d with
  | succ d => exact ⟨o, ho, wkO_refl o⟩
  | zero =>
    have ho' : (L ++ B)[i]? = some o := ho
    rcases Nat.lt_or_ge i L.length with hi | hi
    · rw [List.getElem?_append_left hi] at ho'
      exact ⟨o, by show (L ++ A)[i]? = some o; rw [List.getElem?_append_left hi]; exact ho', wkO_refl o⟩
    · rw [List.getElem?_append_right hi] at ho'
      obtain ⟨o0, k1, k2⟩ := h2 _ o ho'
      exact ⟨o0, by show (L ++ A)[i]? = some o0; rw [List.getElem?_append_right hi]; exact k1, k2⟩
/-- what a body's end says, where the call's objects go over to its caller, and less is said of them -/
def RetMrgW (P : Program) (rs : List ResultVar) (r : AV) (S' : ASt) : Exit → List AV → ASt → Prop := fun e fr S1 =>
  (e = .normal ∨ e = .ret) ∧ ∃ vs, resA P fr S1 rs = some vs ∧ ∃ L1 L R L2, S1 = L1 :: L :: R ∧ (retA vs).mrg L.length = r ∧ wkL (L1.map (AObj.mrg L.length)) L2 ∧ (L ++ L2) :: R = S'
theorem retMrgW_eq (P : Program) (rs : List ResultVar) (r : AV) (e : Exit) (fr : List AV) (L1 L : List AObj) (R S' : ASt) : RetMrgW P rs r S' e fr (L1 :: L :: R) = ((e = .normal ∨ e = .ret) ∧ ∃ vs, resA P fr (L1 :: L :: R) rs = some vs ∧ (retA vs).mrg L.length = r ∧ ∃ L2, wkL (L1.map (AObj.mrg L.length)) L2 ∧ (L ++ L2) :: R = S') := by
  unfold RetMrgW
  apply propext
  constructor
  · rintro ⟨h, vs, h1, L1', L', R', L2, h2, h3, h4, h5⟩
    cases h2
    exact ⟨h, vs, h1, h3, L2, h4, h5⟩
  · rintro ⟨h, vs, h1, h3, L2, h4, h5⟩
    exact ⟨h, vs, h1, _, _, _, L2, rfl, h3, h4, h5⟩
attribute [simp] retMrgW_eq
theorem ADet.mergeW {P : Program} {K : FuncId} {args : List AV} {S S' : ASt} {r : AV} {fn : Func} {c : Code} (hm : P.follows .mixedOrders = true) (hK : ∀ xs w, (callFunc K xs).run P w = .ok (.enter K xs) w) (hf : P.funcs[K]? = some fn) (hb : fn.body = some c)
    (h : awp P c (AV.ups 1 args ++ List.replicate (fn.ntmps - args.length) .un) ([] :: S) (RetMrgW P fn.results.toList r S')) : ADet P K args S r S' := by
  refine ⟨hK, fun Pr φ xs w hargs hR hne => ?_⟩
  refine calls_of_wp hf hb ?_
  have hfr : RF Pr ([] :: φ) (AV.ups 1 args ++ List.replicate (fn.ntmps - args.length) .un) { tmps := xs ++ Array.replicate (fn.ntmps - xs.size) undef, defers := [] } := by
    refine ⟨by simp [ups_len, hargs.1], fun t v x hv hx => ?_⟩
    rcases Nat.lt_or_ge t args.length with ht | ht
    · rw [List.getElem?_append_left (by rw [ups_len]; exact ht), ups_get] at hv
      obtain ⟨v0, h0, rfl⟩ := Option.map_eq_some_iff.1 hv
      simp only at hx
      rw [Array.getElem?_append_left (by rw [← hargs.1]; exact ht)] at hx
      exact RA.up (k := 1) (hargs.2 t v0 x h0 hx)
    · rw [List.getElem?_append_right (by rw [ups_len]; exact ht)] at hv
      simp only at hx
      rw [Array.getElem?_append_right (by rw [← hargs.1]; exact ht)] at hx
      rw [List.getElem?_replicate] at hv
      rw [Array.getElem?_replicate] at hx
      split at hv
      · split at hx
        · cases hv; cases hx; exact .un
        · cases hx
      · cases hv
  refine wp_mono (awp_ok hm c _ Pr ([] :: φ) _ _ ([] :: S) w hfr (rel_push hR) (by simp) h) fun e a' w' hp => ?_
  obtain ⟨fr', S1, Pr', φ', ⟨he, vs, h1, L1, L, R, L2, rfl, h2, hw, h3⟩, h4, h5, h6, h7⟩ := hp
  obtain ⟨x, hx, hrun⟩ := results_ok (P := P) (fn := fn) h4 h5 h1
  have hne' : φ' ≠ [] := ne_of_stp h6 (by simp)
  obtain ⟨l1, φ0, rfl⟩ := List.exists_cons_of_ne_nil hne'
  have spop := stp_pop h6
  have hne0 : φ0 ≠ [] := fun h0 => by have := h5.shape; rw [h0] at this; simp at this
  obtain ⟨l, φ1, rfl⟩ := List.exists_cons_of_ne_nil hne0
  have hlen : l.length = L.length := by have := h5.shape; simp at this; exact this.2.1
  have hF := fle_mrg l l1 φ1
  have hS2 : Stp Pr φ w Pr' ((l ++ l1) :: φ1) w' := by
    refine ⟨spop.pl, spop.fl.trans hF, fun d i e g a b => ?_, spop.fr, ?_, spop.pn⟩
    · obtain ⟨d1, i1, a1, _, _⟩ := get2_mrg_inv a
      rcases h6.fresh _ _ _ g a1 b with ⟨d0, i0, e1, k1, k2⟩ | k1
      · cases d0 with
        | zero => simp [get2] at k1
        | succ d0 => exact .inl ⟨d0, i0, e1, k1, k2⟩
      · exact .inr k1
    · have := spop.len; simpa using this
  have hx2 := hx.mrg
  rw [hlen, h2] at hx2
  have hR2 := rel_wk (rel_mrg h5) (wkS_app hw)
  rw [h3] at hR2
  have key : a'.defers = [] ∧ ∃ v, (results fn a'.tmps).run P w' = .ok v w' ∧ ∃ x Pr' φ', Ending.returned v = .returned x ∧ Stp Pr φ w Pr' φ' w' ∧ Rel Pr' φ' S' w' ∧ RA Pr' φ' r x :=
    ⟨h7, x, hrun, x, Pr', _, rfl, hS2, hR2, hx2⟩
  rcases he with rfl | rfl
  · exact key
  · exact key
end Go.Proofs.Ytlfgjnnecglleaa

namespace Go.Proofs.Ytlfgjnnecglleaa
open Go.RowKit
set_option linter.unusedVariables false

/-- a value, read as data, as long as nothing is written -/
inductive Lent (S : ASt) : AV → PV → Prop
  | p (q : PV) : Lent S (.p q) q
  | nil (k : Nat) : Lent S (.p (.v (.slice none 0 0))) (.sl k [])
  | osl (k : Nat) (rows : List (List PV)) (d i : Nat) : Lent S (.osl k rows d i) (.sl k rows)
  | rsl {d i n k : Nat} {E : TypeId} {cs : List AV} {rows : List (List PV)} (cf : Nat → AV) : get2 S d i = some (.row E k n cs) → rows.length = n → (∀ (r : Nat) (row : List PV), rows[r]? = some row → row.length = k) →
      (∀ (r : Nat) (row : List PV) (j : Nat) (q : PV), rows[r]? = some row → row[j]? = some q → cs[r * k + j]? = some (cf (r * k + j))) →
      (∀ (r : Nat) (row : List PV) (j : Nat) (q : PV), rows[r]? = some row → row[j]? = some q → Lent S ((cf (r * k + j)).up d) q) → Lent S (.rsl d i n k) (.sl k rows)
  | asl {d i n k : Nat} {t : TypeId} {cs : List AV} {rows : List (List PV)} (cf : Nat → AV) : get2 S d i = some (.cells cs t) → rows.length = n → (∀ (r : Nat) (row : List PV), rows[r]? = some row → row.length = k) →
      (∀ (r : Nat) (row : List PV) (j : Nat) (q : PV), rows[r]? = some row → row[j]? = some q → cs[r * k + j]? = some (cf (r * k + j))) →
      (∀ (r : Nat) (row : List PV) (j : Nat) (q : PV), rows[r]? = some row → row[j]? = some q → Lent S ((cf (r * k + j)).up d) q) → Lent S (.asl d i n k) (.sl k rows)
theorem Lent.rp {S : ASt} {Pr : Prot} {φ : Fi2} {w : World} (hR : Rel Pr φ S w) {v : AV} {q : PV} (h : Lent S v q) : ∀ {x : Value}, RA Pr φ v x → RP (allOf w) q x := by
  induction h with
  | p q =>
    intro x hx
    cases hx with
    | p h => exact h.mono hR.pr
  | nil k =>
    intro x hx
    have := atomAV_ok hx rfl
    subst this
    exact .slemp k none 0 (Nat.zero_le _)
  | osl k rows d i => intro x hx; exact hx.sl.mono hR.pr
  | @rsl d i n k E cs rows cf hS hl hw hc _ ih =>
    intro x hx
    obtain ⟨e', hE, htok, hen, hek, hk0, hcl, hrest⟩ := hR.obj d i _ hS
    generalize hkk : k = k' at hx
    cases hx with
    | rnil a b c =>
      have h0 : rows = [] := List.eq_nil_of_length_eq_zero hl
      subst h0
      exact .slemp _ none 0 (Nat.zero_le _)
    | @rsl _ _ _ g cap e a1 a2 a3 a4 a5 a6 a7 =>
      rw [hE] at a1; cases a1
      obtain ⟨hblk, hcap⟩ := a5 hen.symm
      obtain ⟨h0, _⟩ | ⟨g', xs, hg', hheap, hsz, hn0, hnc, hcm, hcs, hun⟩ := hrest
      · omega
      rw [hblk] at hg'; cases hg'
      subst hcap
      have hcell : ∀ o, allOf w g o = xs[o]? := fun o => cell_blk hheap o
      subst hl
      have key : ∀ (r : Nat) (row : List PV) (j : Nat) (p : PV), rows[r]? = some row → row[j]? = some p → allOf w g (0 + r * k + j) = some (xs.getD (r * k + j) undef) ∧ RP (allOf w) p (xs.getD (r * k + j) undef) := fun r row j p hr hj => by
        have h1 := hc r row j p hr hj
        have hlt : r * k + j < xs.size := by
          have := (List.getElem?_eq_some_iff.1 h1).1
          have h3 : rows.length * k ≤ e'.cap * k := Nat.mul_le_mul_right _ hnc
          omega
        have hx : xs[r * k + j]? = some xs[r * k + j] := Array.getElem?_eq_getElem hlt
        have hd : xs.getD (r * k + j) undef = xs[r * k + j] := by simp [hlt]
        rw [Nat.zero_add, hcell, hd]
        exact ⟨hx, ih r row j p hr hj (hcs _ _ _ h1 hx).up⟩
      rw [← hkk]
      exact .sl (off := 0) (fun r j => xs.getD (r * k + j) undef) a6 a7 hw (fun r row j p hr hj => (key r row j p hr hj).1) (fun r row j p hr hj => (key r row j p hr hj).2)
  | @asl d i n k t cs rows cf hS hl hw hc _ ih =>
    intro x hx
    obtain ⟨e', hE, htok, g', xs, hg', hheap, hcl, hcs, hun⟩ := hR.obj d i _ hS
    cases hx with
    | asl h1 h2 h3 h4 =>
      rw [hE] at h1; cases h1
      rw [h3] at hg'; cases hg'
      subst hl
      have key : ∀ (r : Nat) (row : List PV) (j : Nat) (p : PV), rows[r]? = some row → row[j]? = some p → allOf w _ (0 + r * k + j) = some (xs.getD (r * k + j) undef) ∧ RP (allOf w) p (xs.getD (r * k + j) undef) := fun r row j p hr hj => by
        have h1 := hc r row j p hr hj
        have hlt : r * k + j < xs.size := by
          have := (List.getElem?_eq_some_iff.1 h1).1
          omega
        have hx : xs[r * k + j]? = some xs[r * k + j] := Array.getElem?_eq_getElem hlt
        have hd : xs.getD (r * k + j) undef = xs[r * k + j] := by simp [hlt]
        rw [Nat.zero_add, show allOf w _ _ = xs[r * k + j]? from cell_blk hheap _, hd]
        exact ⟨hx, ih r row j p hr hj (hcs _ _ _ h1 hx).up⟩
      exact .sl (off := 0) (fun r j => xs.getD (r * k + j) undef) (Nat.le_refl _) h4 hw (fun r row j p hr hj => (key r row j p hr hj).1) (fun r row j p hr hj => (key r row j p hr hj).2)
/-- an argument -/
inductive LentA (S : ASt) : AV → AV → Prop
  | p {v : AV} {q : PV} : Lent S v q → LentA S v (.p q)
  | agg {l : List (AV × PV)} : (∀ c ∈ l, Lent S c.1 c.2) → LentA S (.agg (l.map (·.1))) (.agg (l.map fun c => .p c.2))
theorem LentA.ra {S : ASt} {Pr : Prot} {φ : Fi2} {w : World} (hR : Rel Pr φ S w) {v v' : AV} (h : LentA S v v') {x : Value} (hx : RA Pr φ v x) : RA (allOf w) [[]] v' x := by
  cases h with
  | p h => exact .p (h.rp hR hx)
  | @agg l h =>
    cases hx with
    | agg h1 h2 =>
      refine .agg (by simpa using h1) fun j c x hc hx => ?_
      rw [List.getElem?_map] at hc
      obtain ⟨q, hq, rfl⟩ := Option.map_eq_some_iff.1 hc
      exact .p ((h q (List.mem_of_getElem? hq)).rp hR (h2 j q.1 x (by rw [List.getElem?_map, hq]; rfl) hx))
inductive LentL (S : ASt) : List AV → List AV → Prop
  | nil : LentL S [] []
  | cons {a b : AV} {al bl : List AV} : LentA S a b → LentL S al bl → LentL S (a :: al) (b :: bl)
theorem LentL.rl {S : ASt} {Pr : Prot} {φ : Fi2} {w : World} (hR : Rel Pr φ S w) {al bl : List AV} (h : LentL S al bl) : al.length = bl.length ∧ ∀ (j : Nat) (b : AV) (x : Value), bl[j]? = some b → (∀ a, al[j]? = some a → RA Pr φ a x) → RA (allOf w) [[]] b x := by
  induction h with
  | nil => exact ⟨rfl, fun j b x h => by simp at h⟩
  | cons h1 _ ih =>
    refine ⟨by simp [ih.1], fun j b x hb ha => ?_⟩
    cases j with
    | zero => simp at hb; subst hb; exact h1.ra hR (ha _ rfl)
    | succ j => exact ih.2 j b x (by simpa using hb) fun a h => ha a (by simpa using h)
theorem tabs_all {S : ASt} {Pr : Prot} {φ : Fi2} {w : World} (hR : Rel Pr φ S w) : TabsP (allOf w) [[]] w := fun g cs hm => by
  obtain ⟨h0, h1, h2, _⟩ := hR.tb g cs hm
  exact ⟨h0, fun j x hx => hR.pr _ _ _ (h1 j x hx), h2, fun d i e he => by
    cases d with
    | zero => simp [get2] at he
    | succ d => simp [get2] at he⟩
/-- a call that only reads, and yields an atom -/
theorem ADet.lend {P : Program} {K : FuncId} {args args' : List AV} {S : ASt} {x : Value} (hx : atom x = true) (h : ADet P K args' [[]] (.p (.v x)) [[]]) (hl : LentL S args args') : ADet P K args S (.p (.v x)) S :=
  ADet.of_calls hx h.1 fun Pr φ xs w hargs hR => by
    have hrl := hl.rl hR
    refine (ADet.calls (Pr := allOf w) h (xs := xs) (w := w) ⟨hrl.1 ▸ hargs.1, fun j c y hc hy => hrl.2 j c y hc fun a ha => hargs.2 j a y ha hy⟩ (fun b o v h => h) (tabs_all hR)).mono fun e w' hp => ?_
    obtain ⟨y, Pr', rfl, _, ⟨φ', hy⟩, hb⟩ := hp
    rw [atomAV_ok hy rfl]
    exact ⟨rfl, hb⟩
/-- a row of elements, each read as data -/
theorem Lent.row {S : ASt} {d i n k : Nat} {E : TypeId} {css : List (List AV)} {rows : List (List PV)} (hS : get2 S d i = some (.row E k n css.flatten)) (hl : rows.length = n) (hl2 : css.length = n)
    (hc : ∀ (r : Nat) (cs : List AV) (row : List PV), css[r]? = some cs → rows[r]? = some row → cs.length = k ∧ row.length = k ∧ ∀ (j : Nat) (c : AV) (q : PV), cs[j]? = some c → row[j]? = some q → Lent S (c.up d) q) : Lent S (.rsl d i n k) (.sl k rows) := by
  have hlen : ∀ cs ∈ css, cs.length = k := fun cs hm => by
    obtain ⟨r, hr, rfl⟩ := List.getElem_of_mem hm
    exact (hc r _ rows[r] (List.getElem?_eq_getElem hr) (List.getElem?_eq_getElem (by omega))).1
  have flat : ∀ (css : List (List AV)), (∀ cs ∈ css, cs.length = k) → ∀ (r : Nat) (cs : List AV) (j : Nat) (c : AV), css[r]? = some cs → cs[j]? = some c → css.flatten[r * k + j]? = some c := by
    intro css
    induction css with
    | nil => intro _ r cs j c h; simp at h
    | cons a al ih =>
      intro hk r cs j c hr hj
      rw [List.flatten_cons]
      have ha := hk a (by simp)
      cases r with
      | zero =>
        simp at hr
        subst hr
        rw [Nat.zero_mul, Nat.zero_add, List.getElem?_append_left (List.getElem?_eq_some_iff.1 hj).1]
        exact hj
      | succ r =>
        rw [List.getElem?_append_right (by rw [ha, Nat.add_mul]; omega), ha]
        have e : (r + 1) * k + j - k = r * k + j := by rw [Nat.add_mul]; omega
        rw [e]
        exact ih (fun cs hm => hk cs (List.mem_cons_of_mem _ hm)) r cs j c (by simpa using hr) hj
  refine .rsl (fun o => css.flatten.getD o .any) hS hl (fun r row hr => ?_) (fun r row j q hr hj => ?_) fun r row j q hr hj => ?_
  · have hlt : r < css.length := by have := (List.getElem?_eq_some_iff.1 hr).1; omega
    exact (hc r _ row (List.getElem?_eq_getElem hlt) hr).2.1
  all_goals
    have hlt : r < css.length := by have := (List.getElem?_eq_some_iff.1 hr).1; omega
    obtain ⟨h1, h2, h3⟩ := hc r _ row (List.getElem?_eq_getElem hlt) hr
    have hjl : j < css[r].length := by have := (List.getElem?_eq_some_iff.1 hj).1; omega
    have hf := flat css hlen r _ j _ (List.getElem?_eq_getElem hlt) (List.getElem?_eq_getElem hjl)
    rw [List.getD, hf]
  · rfl
  · exact h3 j _ q (List.getElem?_eq_getElem hjl) hj
end Go.Proofs.Ytlfgjnnecglleaa

namespace Go.Proofs.Ytlfgjnnecglleaa
open Go.RowKit
set_option linter.unusedVariables false

/-- an empty list is read wherever it lies -/
theorem ADet.lendE {P : Program} {K : FuncId} {args args' : List AV} {S : ASt} {k : Nat} (h : ADet P K args' [[]] (.p (.sl k [])) [[]]) (hl : LentL S args args') : ADet P K args S (.p (.sl k [])) S :=
  ⟨h.1, fun Pr φ xs w hargs hR hne => by
    have hrl := hl.rl hR
    refine (ADet.calls (Pr := allOf w) h (xs := xs) (w := w) ⟨hrl.1 ▸ hargs.1, fun j c y hc hy => hrl.2 j c y hc fun a ha => hargs.2 j a y ha hy⟩ (fun b o v h => h) (tabs_all hR)).mono fun e w' hp => ?_
    obtain ⟨y, Pr', rfl, _, ⟨φ', hy⟩, hb⟩ := hp
    obtain ⟨s, r⟩ := stp_below hR hb
    refine ⟨y, Pr, φ, rfl, s, r, ?_⟩
    cases hy with
    | p hy =>
      cases hy with
      | slemp _ A cap hc => exact .p (.slemp k A cap hc)
      | sl vs h1 h2 => exact .p (.slemp k _ _ h2)⟩

/-- the cells that stay, and those of one's own -/
noncomputable def ownPr (Pr : Prot) (φ : Fi2) (w : World) : Prot := fun b o => open Classical in if (∃ d i e, get2 φ d i = some e ∧ e.blk = some b) then w.cell? ⟨b, o, none⟩ else Pr b o
theorem ownPr_in {Pr : Prot} {φ : Fi2} {w : World} {b o : Nat} (h : ∃ d i e, get2 φ d i = some e ∧ e.blk = some b) : ownPr Pr φ w b o = w.cell? ⟨b, o, none⟩ := by
  unfold ownPr; rw [if_pos h]
theorem ownPr_out {Pr : Prot} {φ : Fi2} {w : World} {b o : Nat} (h : ¬ ∃ d i e, get2 φ d i = some e ∧ e.blk = some b) : ownPr Pr φ w b o = Pr b o := by
  unfold ownPr; rw [if_neg h]
theorem ownPr_cell {Pr : Prot} {φ : Fi2} {S : ASt} {w : World} (hR : Rel Pr φ S w) (b o : Nat) (v : Value) (h : ownPr Pr φ w b o = some v) : w.cell? ⟨b, o, none⟩ = some v := by
  unfold ownPr at h
  split at h
  · exact h
  · exact hR.pr b o v h
theorem ownPr_le {Pr : Prot} {φ : Fi2} {S : ASt} {w : World} (hR : Rel Pr φ S w) : Pr.le (ownPr Pr φ w) := fun b o v h => by
  by_cases hb : ∃ d i e, get2 φ d i = some e ∧ e.blk = some b
  · rw [ownPr_in hb]; exact hR.pr b o v h
  · rw [ownPr_out hb]; exact h
theorem Lent.rpO {S : ASt} {Pr : Prot} {φ : Fi2} {w : World} (hR : Rel Pr φ S w) {v : AV} {q : PV} (h : Lent S v q) : ∀ {x : Value}, RA Pr φ v x → RP (ownPr Pr φ w) q x := by
  induction h with
  | p q =>
    intro x hx
    cases hx with
    | p h => exact h.mono (ownPr_le hR)
  | nil k =>
    intro x hx
    have := atomAV_ok hx rfl
    subst this
    exact .slemp k none 0 (Nat.zero_le _)
  | osl k rows d i => intro x hx; exact hx.sl.mono (ownPr_le hR)
  | @rsl d i n k E cs rows cf hS hl hw hc _ ih =>
    intro x hx
    obtain ⟨e', hE, htok, hen, hek, hk0, hcl, hrest⟩ := hR.obj d i _ hS
    generalize hkk : k = k' at hx
    cases hx with
    | rnil a b c =>
      have h0 : rows = [] := List.eq_nil_of_length_eq_zero hl
      subst h0
      exact .slemp _ none 0 (Nat.zero_le _)
    | @rsl _ _ _ g cap e a1 a2 a3 a4 a5 a6 a7 =>
      rw [hE] at a1; cases a1
      obtain ⟨hblk, hcap⟩ := a5 hen.symm
      obtain ⟨h0, _⟩ | ⟨g', xs, hg', hheap, hsz, hn0, hnc, hcm, hcs, hun⟩ := hrest
      · omega
      rw [hblk] at hg'; cases hg'
      subst hcap
      have hcell : ∀ o, ownPr Pr φ w g o = xs[o]? := fun o => by rw [ownPr_in ⟨d, i, e', hE, hblk⟩]; exact cell_blk hheap o
      subst hl
      have key : ∀ (r : Nat) (row : List PV) (j : Nat) (p : PV), rows[r]? = some row → row[j]? = some p → ownPr Pr φ w g (0 + r * k + j) = some (xs.getD (r * k + j) undef) ∧ RP (ownPr Pr φ w) p (xs.getD (r * k + j) undef) := fun r row j p hr hj => by
        have h1 := hc r row j p hr hj
        have hlt : r * k + j < xs.size := by
          have := (List.getElem?_eq_some_iff.1 h1).1
          have h3 : rows.length * k ≤ e'.cap * k := Nat.mul_le_mul_right _ hnc
          omega
        have hx : xs[r * k + j]? = some xs[r * k + j] := Array.getElem?_eq_getElem hlt
        have hd : xs.getD (r * k + j) undef = xs[r * k + j] := by simp [hlt]
        rw [Nat.zero_add, hcell, hd]
        exact ⟨hx, ih r row j p hr hj (hcs _ _ _ h1 hx).up⟩
      rw [← hkk]
      exact .sl (off := 0) (fun r j => xs.getD (r * k + j) undef) a6 a7 hw (fun r row j p hr hj => (key r row j p hr hj).1) (fun r row j p hr hj => (key r row j p hr hj).2)
  | @asl d i n k t cs rows cf hS hl hw hc _ ih =>
    intro x hx
    obtain ⟨e', hE, htok, g', xs, hg', hheap, hcl, hcs, hun⟩ := hR.obj d i _ hS
    cases hx with
    | asl h1 h2 h3 h4 =>
      rw [hE] at h1; cases h1
      rw [h3] at hg'; cases hg'
      subst hl
      have key : ∀ (r : Nat) (row : List PV) (j : Nat) (p : PV), rows[r]? = some row → row[j]? = some p → ownPr Pr φ w _ (0 + r * k + j) = some (xs.getD (r * k + j) undef) ∧ RP (ownPr Pr φ w) p (xs.getD (r * k + j) undef) := fun r row j p hr hj => by
        have h1 := hc r row j p hr hj
        have hlt : r * k + j < xs.size := by
          have := (List.getElem?_eq_some_iff.1 h1).1
          omega
        have hx : xs[r * k + j]? = some xs[r * k + j] := Array.getElem?_eq_getElem hlt
        have hd : xs.getD (r * k + j) undef = xs[r * k + j] := by simp [hlt]
        rw [Nat.zero_add, show ownPr Pr φ w _ _ = xs[r * k + j]? from by rw [ownPr_in ⟨d, i, e', hE, h3⟩]; exact cell_blk hheap _, hd]
        exact ⟨hx, ih r row j p hr hj (hcs _ _ _ h1 hx).up⟩
      exact .sl (off := 0) (fun r j => xs.getD (r * k + j) undef) (Nat.le_refl _) h4 hw (fun r row j p hr hj => (key r row j p hr hj).1) (fun r row j p hr hj => (key r row j p hr hj).2)
theorem LentA.raO {S : ASt} {Pr : Prot} {φ : Fi2} {w : World} (hR : Rel Pr φ S w) {v v' : AV} (h : LentA S v v') {x : Value} (hx : RA Pr φ v x) : RA (ownPr Pr φ w) [[]] v' x := by
  cases h with
  | p h => exact .p (h.rpO hR hx)
  | @agg l h =>
    cases hx with
    | agg h1 h2 =>
      refine .agg (by simpa using h1) fun j c x hc hx => ?_
      rw [List.getElem?_map] at hc
      obtain ⟨q, hq, rfl⟩ := Option.map_eq_some_iff.1 hc
      exact .p ((h q (List.mem_of_getElem? hq)).rpO hR (h2 j q.1 x (by rw [List.getElem?_map, hq]; rfl) hx))
theorem LentL.rlO {S : ASt} {Pr : Prot} {φ : Fi2} {w : World} (hR : Rel Pr φ S w) {al bl : List AV} (h : LentL S al bl) : al.length = bl.length ∧ ∀ (j : Nat) (b : AV) (x : Value), bl[j]? = some b → (∀ a, al[j]? = some a → RA Pr φ a x) → RA (ownPr Pr φ w) [[]] b x := by
  induction h with
  | nil => exact ⟨rfl, fun j b x h => by simp at h⟩
  | cons h1 _ ih =>
    refine ⟨by simp [ih.1], fun j b x hb ha => ?_⟩
    cases j with
    | zero => simp at hb; subst hb; exact h1.raO hR (ha _ rfl)
    | succ j => exact ih.2 j b x (by simpa using hb) fun a h => ha a (by simpa using h)
/-- all objects are given up -/
def deadS (S : ASt) : ASt := S.map fun L => List.replicate L.length .dead
theorem deadS_get {S : ASt} {d i : Nat} {o : AObj} (h : get2 (deadS S) d i = some o) : o = .dead := by
  unfold get2 deadS at h
  obtain ⟨L, h1, h2⟩ := Option.bind_eq_some_iff.1 h
  rw [List.getElem?_map] at h1
  obtain ⟨L0, _, rfl⟩ := Option.map_eq_some_iff.1 h1
  exact (List.eq_of_mem_replicate (List.mem_of_getElem? h2))
/-- a call that yields data: what was lent to it is data from then on -/
theorem ADet.lendAll {P : Program} {K : FuncId} {args args' : List AV} {S : ASt} {q : PV} (h : ADet P K args' [[]] (.p q) [[]]) (hl : LentL S args args') : ADet P K args S (.p q) (deadS S) :=
  ⟨h.1, fun Pr φ xs w hargs hR hne => by
    have hrl := hl.rlO hR
    have no : ∀ {d i : Nat} {e : Ent}, get2 ([[]] : Fi2) d i = some e → False := fun {d i e} h => by
      cases d with
      | zero => simp [get2] at h
      | succ d => simp [get2] at h
    have htb0 : TabsP (ownPr Pr φ w) [[]] w := fun g cs hm => by
      obtain ⟨h0, h1, h2, _⟩ := hR.tb g cs hm
      exact ⟨h0, fun j x hx => ownPr_le hR _ _ _ (h1 j x hx), h2, fun d i e he => (no he).elim⟩
    have hR0 : Rel (ownPr Pr φ w) [[]] [[]] w := ⟨fun d i o ho => by
      cases d with
      | zero => simp [get2] at ho
      | succ d => simp [get2] at ho, fun d i e d' i' e' g h1 => (no h1).elim, fun d i e g h1 => (no h1).elim, ownPr_cell hR, htb0, rfl⟩
    refine (h.2 (ownPr Pr φ w) [[]] xs w ⟨hrl.1 ▸ hargs.1, fun j c y hc hy => hrl.2 j c y hc fun a ha => hargs.2 j a y ha hy⟩ hR0 (by simp)).mono fun e w' hp => ?_
    obtain ⟨x, Pr', φ', rfl, hs, hr, hx⟩ := hp
    have hblk : ∀ g, g < w.heap.size → w'.heap[g]? = w.heap[g]? := fun g hg => hs.fr.block g hg fun d i e he => (no he).elim
    refine ⟨x, Pr', φ, rfl, ⟨Prot.le_trans (ownPr_le hR) hs.pl, Fle.refl _, fun d i e g he hg => .inl ⟨d, i, e, he, hg⟩, ⟨hs.fr.os, hs.fr.tape, hs.fr.output, hs.fr.size, fun g hg _ => hblk g hg⟩, rfl, fun g o h0 h2 => ?_⟩, ⟨fun d i o ho => ?_, hR.dis, fun d i e g h1 h2 => Nat.lt_of_lt_of_le (hR.lt d i e g h1 h2) hs.fr.size, hr.pr, fun g cs hm => ?_, ?_⟩, ?_⟩
    · by_cases hb : ∃ d i e, get2 φ d i = some e ∧ e.blk = some g
      · exact .inl hb
      · rcases hs.pn g o (by rw [ownPr_out hb]; exact h0) h2 with ⟨d, i, e, he, _⟩ | h3
        · exact (no he).elim
        · exact .inr h3
    · have hd := deadS_get ho
      subst hd
      have hlen : (deadS S).map List.length = S.map List.length := by
        unfold deadS
        rw [List.map_map]
        refine List.map_congr_left fun L _ => ?_
        simp
      obtain ⟨L, h1, h2⟩ := Option.bind_eq_some_iff.1 (show ((deadS S)[d]?).bind (·[i]?) = _ from ho)
      have hL : ((deadS S).map List.length)[d]? = some L.length := by rw [List.getElem?_map, h1]; rfl
      rw [hlen, ← hR.shape, List.getElem?_map] at hL
      obtain ⟨l0, h3, h4⟩ := Option.map_eq_some_iff.1 hL
      have hi : i < l0.length := by rw [h4]; exact (List.getElem?_eq_some_iff.1 h2).1
      exact ⟨l0[i], by unfold get2; rw [h3, Option.bind_some, List.getElem?_eq_getElem hi], trivial⟩
    · obtain ⟨h0, h1, ⟨t, fz, h2⟩, h3⟩ := hR.tb g cs hm
      exact ⟨h0, fun j x hx => hs.pl _ _ _ (ownPr_le hR _ _ _ (h1 j x hx)), ⟨t, fz, by rw [hblk g (blk_lt h2)]; exact h2⟩, h3⟩
    · unfold deadS
      rw [List.map_map, hR.shape]
      refine List.map_congr_left fun L _ => ?_
      simp
    · cases hx with
      | p hx => exact .p hx⟩
end Go.Proofs.Ytlfgjnnecglleaa

namespace Go.Proofs.Ytlfgjnnecglleaa
open Go.RowKit
set_option linter.unusedVariables false
set_option linter.unusedSimpArgs false
theorem wkR_refl : ∀ l : List AV, wkR l l
  | [] => trivial
  | a :: l => ⟨.inr rfl, wkR_refl l⟩
theorem wkL_cons {o o' : AObj} {a b : List AObj} (h : wkL [o] [o']) (k : wkL a b) : wkL (o :: a) (o' :: b) := by
  cases o <;> cases o' <;> simp_all [wkL]
theorem wkL_ex {m : Nat} {c d : List AObj} (h : wkL c d) : ∀ ex : List AObj, (∀ o ∈ ex, ∀ m, wkL [o.cut m] [o]) → wkL (ex.map (AObj.cut m) ++ c) (ex ++ d)
  | [], _ => h
  | o :: ex, hc => wkL_cons (hc o (by simp) m) (wkL_ex h ex fun o ho => hc o (List.mem_cons_of_mem _ ho))
theorem wk_keep {A B : List AObj} (h : ∀ o ∈ A, wkL [o.cut A.length] [o]) : wkL (List.map (AObj.cut A.length) (List.take A.length (A ++ B))) A := by
  rw [List.take_left]
  have key : ∀ (m : Nat) (A : List AObj), (∀ o ∈ A, wkL [o.cut m] [o]) → wkL (A.map (AObj.cut m)) A := by
    intro m A
    induction A with
    | nil => intro _; exact trivial
    | cons o A ih => intro hc; exact wkL_cons (hc o (by simp)) (ih fun o ho => hc o (List.mem_cons_of_mem _ ho))
  exact key _ A h
theorem wk_dead : ∀ A : List AObj, wkL A (List.replicate A.length .dead)
  | [] => trivial
  | o :: A => wkL_cons (by cases o <;> trivial) (wk_dead A)
theorem wkL_self {m : Nat} {o : AObj} (h : wkL [o.cut m] [o]) : wkL [o] [o] := by
  cases o with
  | raw => exact h.elim
  | dead => trivial
  | cells => exact ⟨⟨rfl, wkR_refl _⟩, trivial⟩
  | tok => exact ⟨⟨rfl, rfl, rfl⟩, trivial⟩
  | map => exact ⟨rfl, trivial⟩
  | row => exact ⟨⟨⟨rfl, rfl, rfl⟩, wkR_refl _⟩, trivial⟩
theorem wkL_selfs {m : Nat} : ∀ {A : List AObj}, (∀ o ∈ A, wkL [o.cut m] [o]) → wkL A A
  | [], _ => trivial
  | o :: A, h => wkL_cons (wkL_self (h o (by simp))) (wkL_selfs fun o ho => h o (List.mem_cons_of_mem _ ho))
theorem wkT_self {A : List AObj} {N : Nat} {S : ASt} (hl : A.length = N) (h : ∀ o ∈ A, wkL [o.cut N] [o]) : wkT (trim N (A :: S)) (A :: S) := by
  subst hl
  have := wk_keep (A := A) (B := []) h
  rw [List.append_nil] at this
  exact ⟨this, rfl⟩
theorem wkT_eq {X Y : List AObj} {N : Nat} {S : ASt} (e : X = Y) (hl : Y.length = N) (h : ∀ o ∈ Y, wkL [o.cut N] [o]) : wkT (trim N (X :: S)) (Y :: S) := by
  subst e
  exact wkT_self hl h
theorem wkT_dead {A : List AObj} {N : Nat} {S : ASt} (hl : A.length = N) : wkT (trim N (A :: S)) (List.replicate N .dead :: S) := by
  have := wk_dead (List.map (AObj.cut N) (List.take N A))
  rw [List.length_map, List.length_take, hl, Nat.min_self] at this
  exact ⟨this, rfl⟩
end Go.Proofs.Ytlfgjnnecglleaa

namespace Go.Proofs.Ytlfgjnnecglleaa
open Go.RowKit
attribute [local simp] List.replicate List.range List.range.loop resA resOne retA AV.cuts AV.cut AObj.cut trim wkR wkT wkL wkN wkNR wkNL wkM wkMR wkML
set_option linter.unusedVariables false
set_option linter.unusedSimpArgs false
/-- the cells of a row of data -/
def rowC {α : Type} (enc : α → List PV) (l : List α) : List AV := (l.map fun x => (enc x).map AV.p).flatten
theorem rowC_take {α : Type} (enc : α → List PV) (l : List α) {q : Nat} (h : q < l.length) : rowC enc (l.take (q + 1)) = rowC enc (l.take q) ++ (enc l[q]).map AV.p := by
  unfold rowC
  rw [List.take_add_one, List.map_append, List.flatten_append, List.getElem?_eq_getElem h]
  simp
theorem rowC_p {α : Type} {enc : α → List PV} {l : List α} : ∀ c ∈ rowC enc l, ∃ q, c = .p q := fun c hc => by
  obtain ⟨cs, h1, h2⟩ := List.mem_flatten.1 hc
  obtain ⟨x, _, rfl⟩ := List.mem_map.1 h1
  obtain ⟨q, _, rfl⟩ := List.mem_map.1 h2
  exact ⟨q, rfl⟩
theorem rowC_cut {α : Type} (enc : α → List PV) (l : List α) (n : Nat) : AV.cuts n (rowC enc l) = rowC enc l := by
  rw [cuts_map]
  conv => rhs; rw [← List.map_id (rowC enc l)]
  exact List.map_congr_left fun c hc => by obtain ⟨q, rfl⟩ := rowC_p c hc; rfl
theorem rowC_mrg {α : Type} (enc : α → List PV) (l : List α) (n : Nat) : AV.mrgs n (rowC enc l) = rowC enc l := by
  rw [mrgs_map]
  conv => rhs; rw [← List.map_id (rowC enc l)]
  exact List.map_congr_left fun c hc => by obtain ⟨q, rfl⟩ := rowC_p c hc; rfl
set_option maxRecDepth 100000 in
set_option maxHeartbeats 2000000 in
theorem everyR_Field (f : Fi → Fi) (l : List Fi) (hl : l.length ≤ 20000) (K : Nat) (caps : List AV) (L : List AObj) (R : ASt) (hc : ∀ x ∈ l, ∀ M, ADet Try.prog K (fiV x :: AV.ups 1 caps) (M :: L :: R) (fiV (f x)) (M :: L :: R)) :
    ADet Try.prog 43 [.p (.sl 4 (l.map Fi.enc)), .fn (.func K) [] caps] (L :: R) (.rsl 0 L.length l.length 4) ((L ++ [.row 44 4 l.length (rowC Fi.enc (l.map f))]) :: R) := by
  refine ADet.okP Try.call43 0 rfl fun hok => ?_
  have hlen := okl hok
  refine ADet.merge mixed Try.call43 Try.func43 rfl ?_
  simp [Try.ntmps43]
  refine awp_loopR 44 4 (by decide) [] (fun q : Nat => q ≤ l.length) (fun q => [.p (.sl 4 (l.map Fi.enc)), .fn (.func K) [] (AV.ups 1 caps), .any, .any, .any, .rsl 0 0 q 4, .any, .any, .p (.sl 4 (l.map Fi.enc)), I l.length, I q, .any, .any, .any, .any, .any, .any, .any, .any, .any, .any, .any]) (fun q => [.row 44 4 q (rowC Fi.enc ((l.map f).take q))] :: L :: R) (fun q => l.length - q) (fun _ => 1) 0 (Nat.zero_le _) ?_ ?_ ?_ ?_ ?_
  · intro q _; simp
  · simp
  · simp
  · rfl
  intro q hq
  by_cases hlt : q < l.length
  · have hlt' : (q : Int) < (l.length : Int) := by omega
    have hx := fun M => hc _ (List.getElem_mem hlt) M
    have hr := rowC_take Fi.enc (l.map f) (q := q) (by simpa using hlt)
    have hfx : (l.map f)[q]'(by simpa using hlt) = f l[q] := by simp
    rw [hfx] at hr
    have hcut := rowC_cut Fi.enc ((l.map f).take q) 1
    have hle : q + 1 ≤ 4294967296 := by omega
    generalize rowC Fi.enc ((l.map f).take q) = rc at *
    generalize hy : l[q] = x at *
    generalize f x = z at *
    simp [hlt, hlt', hy, Fi.enc]
    refine ⟨_, _, hx _, ?_⟩
    simp [hle, Fi.enc]
    refine ⟨q + 1, hlt, by omega, ⟨rfl, wrap_succ hlt⟩, rfl, ?_⟩
    rw [hr, cuts_map, List.map_append, ← cuts_map, hcut]
    exact wkR_refl _
  · have hlt' : ¬ (q : Int) < (l.length : Int) := by omega
    have hql : q = l.length := by omega
    subst hql
    have ht : (l.map f).take l.length = l.map f := List.take_of_length_le (by simp)
    have hm := rowC_mrg Fi.enc (l.map f) L.length
    simp [ht, AV.mrg, AObj.mrg, hm]
set_option maxRecDepth 100000 in
set_option maxHeartbeats 2000000 in
theorem everyR_Stmt (f : St → St) (l : List St) (hl : l.length ≤ 20000) (K : Nat) (caps : List AV) (L : List AObj) (R : ASt) (hc : ∀ x ∈ l, ∀ M, ADet Try.prog K (stmV x :: AV.ups 1 caps) (M :: L :: R) (stmV (f x)) (M :: L :: R)) :
    ADet Try.prog 37 [.p (.sl 15 (l.map St.enc)), .fn (.func K) [] caps] (L :: R) (.rsl 0 L.length l.length 15) ((L ++ [.row 47 15 l.length (rowC St.enc (l.map f))]) :: R) := by
  refine ADet.okP Try.call37 0 rfl fun hok => ?_
  have hlen := okl hok
  refine ADet.merge mixed Try.call37 Try.func37 rfl ?_
  simp [Try.ntmps37]
  refine awp_loopR 47 15 (by decide) [] (fun q : Nat => q ≤ l.length) (fun q => [.p (.sl 15 (l.map St.enc)), .fn (.func K) [] (AV.ups 1 caps), .any, .any, .any, .rsl 0 0 q 15, .any, .any, .p (.sl 15 (l.map St.enc)), I l.length, I q, .any, .any, .any, .any, .any, .any, .any, .any, .any, .any, .any]) (fun q => [.row 47 15 q (rowC St.enc ((l.map f).take q))] :: L :: R) (fun q => l.length - q) (fun _ => 1) 0 (Nat.zero_le _) ?_ ?_ ?_ ?_ ?_
  · intro q _; simp
  · simp
  · simp
  · rfl
  intro q hq
  by_cases hlt : q < l.length
  · have hlt' : (q : Int) < (l.length : Int) := by omega
    have hx := fun M => hc _ (List.getElem_mem hlt) M
    have hr := rowC_take St.enc (l.map f) (q := q) (by simpa using hlt)
    have hfx : (l.map f)[q]'(by simpa using hlt) = f l[q] := by simp
    rw [hfx] at hr
    have hcut := rowC_cut St.enc ((l.map f).take q) 1
    have hle : q + 1 ≤ 4294967296 := by omega
    generalize rowC St.enc ((l.map f).take q) = rc at *
    generalize hy : l[q] = x at *
    generalize f x = z at *
    simp [hlt, hlt', hy, stEnc]
    refine ⟨_, _, hx _, ?_⟩
    simp [hle, stEnc]
    refine ⟨q + 1, hlt, by omega, ⟨rfl, wrap_succ hlt⟩, rfl, ?_⟩
    rw [hr, cuts_map, List.map_append, ← cuts_map, hcut, stEnc]
    exact wkR_refl _
  · have hlt' : ¬ (q : Int) < (l.length : Int) := by omega
    have hql : q = l.length := by omega
    subst hql
    have ht : (l.map f).take l.length = l.map f := List.take_of_length_le (by simp)
    have hm := rowC_mrg St.enc (l.map f) L.length
    simp [ht, AV.mrg, AObj.mrg, hm]
end Go.Proofs.Ytlfgjnnecglleaa

namespace Go.Proofs.Ytlfgjnnecglleaa
open Go.RowKit
attribute [local simp] List.replicate List.range List.range.loop resA resOne retA virtL virtO virt_get markL markO markR_get rowA awpI_nil awpI_cons List.forall_mem_cons List.contains_cons List.contains_nil List.find? nextD_eq awpD_nil awpD_cons LCp LCl refL
set_option linter.unusedVariables false
set_option linter.unusedSimpArgs false
/-- an item's cells; its fields and its body lie in rows of their own -/
def itRC (x : It) (a b : Nat) : List AV := [U x.kind, Sg x.name, .rsl 0 a x.fields.length 4, U x.result.kind, Sg x.result.name, .p (.sl 3 (x.result.args.map Ty.enc)), .rsl 0 b x.body.length 15, U x.ret.op, I x.ret.int, Sg x.ret.name, Sg x.ret.second, Sg x.ret.place.name, .p (strs x.ret.place.path), .p (.sl 8 (x.ret.args.map Ex.enc)), I x.ret.pos, I x.pos]
theorem itRC_mrg (x : It) (a b n : Nat) : AV.mrgs n (itRC x a b) = itRC x (n + a) (n + b) := by simp [itRC, AV.mrgs, AV.mrg]
set_option maxRecDepth 100000 in
set_option maxHeartbeats 16000000 in
theorem cpItemR (F : Nat) (g : Int → Int) (hg : AtF F g) (x : It) (hx : ItSm x) (L : List AObj) (R : ASt) (d : Nat) (h : CpAt F (L :: R) d) : ADet Try.prog 42 [itV x, .ptr d 8 0, .ptr d 3 0, .ptr d 5 0, .ptr d 4 0, .ptr d 1 0] (L :: R) (.agg (itRC (x.atm g) (L.length + 2) (L.length + 3))) ((L ++ [.dead, .dead, .row 44 4 x.fields.length (rowC Fi.enc x.fields), .row 47 15 x.body.length (rowC St.enc (x.body.map (St.atm g)))]) :: R) := by
  obtain ⟨_, hfs, hty, hst, hex⟩ := hx
  have o1 := h.o1
  have o3 := h.o3
  have o4 := h.o4
  have o5 := h.o5
  have o8 := h.o8
  have fC : ∀ M, ADet Try.prog 43 [.p (.sl 4 (x.fields.map Fi.enc)), .fn (.func 40) [] [.ptr (d + 1) 3 0]] (M :: L :: R) (.rsl 0 M.length x.fields.length 4) ((M ++ [.row 44 4 x.fields.length (rowC Fi.enc x.fields)]) :: L :: R) := fun M => by
    have := everyR_Field (fun x => x) x.fields hfs.1 40 [.ptr (d + 1) 3 0] M (L :: R) fun f hf M' => by
      have := cpFieldC F f (hfs.2 f hf) _ _ ((h.push M).push M')
      simpa [AV.ups, AV.up] using this
    simpa using this
  have tC := fun M => cpTypeC F x.result hty _ _ (h.push M)
  have bC : ∀ M, ADet Try.prog 37 [.p (.sl 15 (x.body.map St.enc)), .fn (.func 38) [] [.ptr (d + 1) 3 0, .ptr (d + 1) 6 0, .ptr (d + 1) 4 0, .ptr (d + 1) 5 0, .ptr (d + 1) 7 0, .ptr (d + 1) 1 0]] (M :: L :: R) (.rsl 0 M.length x.body.length 15) ((M ++ [.row 47 15 x.body.length (rowC St.enc (x.body.map (St.atm g)))]) :: L :: R) := fun M =>
    everyR_Stmt (St.atm g) x.body hst.1 38 _ M (L :: R) fun s hs M' => by
      have := cpStmtC F g hg s (hst.2 s hs) _ _ ((h.push M).push M')
      simpa [AV.ups, AV.up] using this
  have eC := fun M => cpExprC F g hg x.ret hex _ _ (h.push M)
  have gC := fun S => hg x.pos S
  have hbl : (x.body.map (St.atm g)).length = x.body.length := by simp
  have m1 := rowC_mrg Fi.enc x.fields L.length
  have m2 := rowC_mrg St.enc (x.body.map (St.atm g)) L.length
  generalize rowC Fi.enc x.fields = r1 at *
  generalize rowC St.enc (x.body.map (St.atm g)) = r2 at *
  have e0 : itRC (x.atm g) (L.length + 2) (L.length + 3) = itRC ⟨x.kind, x.name, x.fields, x.result, x.body, x.ret.atm g, g x.pos⟩ (L.length + 2) (L.length + 3) := by simp [itRC, It.atm]
  rw [e0]
  generalize g x.pos = gp at *
  generalize x.ret.atm g = z at *
  refine ADet.afterS (S' := (L ++ [.cells (itRC ⟨x.kind, x.name, x.fields, x.result, x.body, z, gp⟩ (L.length + 2) (L.length + 3)) 39, .cells (itRC ⟨x.kind, x.name, x.fields, x.result, x.body, z, gp⟩ (L.length + 2) (L.length + 3)) 39, .row 44 4 x.fields.length r1, .row 47 15 x.body.length r2]) :: R) (wkS_app ?_) ?_
  · exact ⟨⟨⟨rfl, rfl, rfl⟩, wkR_refl _⟩, ⟨⟨rfl, rfl, rfl⟩, wkR_refl _⟩, trivial⟩
  refine ADet.merge mixed Try.call42 Try.func42 rfl ?_
  simp [Try.ntmps42]
  refine awp_draw [(4, 3), (6, 3), (9, 3), (9, 7), (10, 3), (10, 7), (12, 3), (12, 7), (12, 11), (14, 3), (14, 7), (14, 11), (16, 3), (16, 7), (16, 11), (16, 15), (18, 3), (18, 7), (18, 11), (18, 15)] (by kernel_rfl) (by kernel_rfl) ?_
  simp [o8]
  refine ⟨_, _, fC _, ?_⟩
  simp [o3]
  refine ⟨_, _, tC _, ?_⟩
  simp [o5]
  refine ⟨_, _, bC _, ?_⟩
  simp [o4]
  refine ⟨_, _, eC _, ?_⟩
  simp [o1]
  refine ⟨_, _, gC _, ?_⟩
  simp [AV.mrg, AV.mrgs, AObj.mrg, m1, m2, itRC]
end Go.Proofs.Ytlfgjnnecglleaa

namespace Go.Proofs.Ytlfgjnnecglleaa
open Go.RowKit
attribute [local simp] List.replicate List.range List.range.loop resA resOne retA AV.cuts AV.cut AObj.cut trim wkR wkT wkL wkN wkNR wkNL wkM wkMR wkML
set_option linter.unusedVariables false
set_option linter.unusedSimpArgs false
/-- items' cells: their row is object n, their lists lie behind it -/
def itsRC : Nat → List It → List AV
  | _, [] => []
  | n, y :: ys => itRC y (n + 4) (n + 5) ++ itsRC (n + 6) ys
/-- what lies behind the row -/
def itO6 (y : It) : List AObj := [.dead, .dead, .dead, .row 44 4 y.fields.length (rowC Fi.enc y.fields), .row 47 15 y.body.length (rowC St.enc y.body), .dead]
def itsO : List It → List AObj
  | [] => []
  | y :: ys => itO6 y ++ itsO ys
theorem itsRC_app : ∀ (n : Nat) (ys : List It) (y : It), itsRC n (ys ++ [y]) = itsRC n ys ++ itRC y (n + 6 * ys.length + 4) (n + 6 * ys.length + 5)
  | n, [], y => by simp [itsRC]
  | n, z :: ys, y => by
    have e1 : n + 6 + 6 * ys.length + 4 = n + 6 * (z :: ys).length + 4 := by simp; omega
    have e2 : n + 6 + 6 * ys.length + 5 = n + 6 * (z :: ys).length + 5 := by simp; omega
    rw [List.cons_append, itsRC, itsRC_app, e1, e2, itsRC, List.append_assoc]
theorem itsO_app : ∀ (ys : List It) (y : It), itsO (ys ++ [y]) = itsO ys ++ itO6 y
  | [], y => by simp [itsO]
  | z :: ys, y => by rw [List.cons_append, itsO, itsO_app, itsO, List.append_assoc]
theorem itsO_len : ∀ ys : List It, (itsO ys).length = 6 * ys.length
  | [] => rfl
  | y :: ys => by rw [itsO, List.length_append, itsO_len]; simp [itO6]; omega
theorem mrgs_append (n : Nat) (a b : List AV) : AV.mrgs n (a ++ b) = AV.mrgs n a ++ AV.mrgs n b := by rw [mrgs_map, mrgs_map, mrgs_map, List.map_append]
theorem cuts_append (n : Nat) (a b : List AV) : AV.cuts n (a ++ b) = AV.cuts n a ++ AV.cuts n b := by rw [cuts_map, cuts_map, cuts_map, List.map_append]
theorem itsRC_mrg : ∀ (n m : Nat) (ys : List It), AV.mrgs m (itsRC n ys) = itsRC (m + n) ys
  | n, m, [] => rfl
  | n, m, y :: ys => by
    rw [itsRC, mrgs_append, itRC_mrg, itsRC_mrg, itsRC]
    rfl
theorem itRC_cut {y : It} {a b N : Nat} (ha : a < N) (hb : b < N) : AV.cuts N (itRC y a b) = itRC y a b := by simp [itRC, AV.cuts, AV.cut, ha, hb]
theorem itsRC_cut : ∀ (n N : Nat) (ys : List It), n + 6 * ys.length ≤ N → AV.cuts N (itsRC n ys) = itsRC n ys
  | n, N, [], _ => rfl
  | n, N, y :: ys, h => by
    have h' : n + 6 + 6 * ys.length ≤ N := by simp at h; omega
    rw [itsRC, cuts_append, itRC_cut (by omega) (by omega), itsRC_cut _ _ _ h']
theorem itO6_mrg (m : Nat) (y : It) : (itO6 y).map (AObj.mrg m) = itO6 y := by
  simp [itO6, AObj.mrg, rowC_mrg]
theorem itsO_mrg (m : Nat) : ∀ ys : List It, (itsO ys).map (AObj.mrg m) = itsO ys
  | [] => rfl
  | y :: ys => by rw [itsO, List.map_append, itO6_mrg, itsO_mrg]
theorem itO6_wk (N : Nat) (y : It) : ∀ o ∈ itO6 y, wkL [o.cut N] [o] := fun o ho => by
  simp only [itO6, List.mem_cons, List.not_mem_nil, or_false] at ho
  rcases ho with rfl | rfl | rfl | rfl | rfl | rfl
  · trivial
  · trivial
  · trivial
  · show wkL [AObj.row _ 4 _ (AV.cuts N _)] _
    rw [rowC_cut]; exact ⟨⟨⟨rfl, rfl, rfl⟩, wkR_refl _⟩, trivial⟩
  · show wkL [AObj.row _ 15 _ (AV.cuts N _)] _
    rw [rowC_cut]; exact ⟨⟨⟨rfl, rfl, rfl⟩, wkR_refl _⟩, trivial⟩
  · trivial
theorem itsO_wk (N : Nat) : ∀ (ys : List It), ∀ o ∈ itsO ys, wkL [o.cut N] [o]
  | [], o, ho => by cases ho
  | y :: ys, o, ho => by
    rw [itsO] at ho
    rcases List.mem_append.1 ho with h | h
    · exact itO6_wk N y o h
    · exact itsO_wk N ys o h
theorem wk_endI {N q : Nat} {E : TypeId} {ys : List It} {y : It} {ex B : List AObj} {rc : List AV} (hN : N = 1 + 6 * (q + 1)) (hq : ys.length = q) (hex : ex = itsO ys) (hrc : rc = itsRC 0 ys) (hB : B.length = 6) (hBB : wkL (B.map (AObj.cut N)) (itO6 y)) :
    wkL (List.map (AObj.cut N) (List.take N (.row E 16 (q + 1) (rc ++ itRC y (6 * q + 4) (6 * q + 5)) :: (ex ++ B)))) (.row E 16 (q + 1) (itsRC 0 (ys ++ [y])) :: itsO (ys ++ [y])) := by
  subst hex hrc
  have hl := itsO_len ys
  rw [List.take_of_length_le (by simp [hl, hB, hq]; omega), itsO_app, itsRC_app, List.map_cons, List.map_append]
  have e : itsRC 0 ys ++ itRC y (0 + 6 * ys.length + 4) (0 + 6 * ys.length + 5) = itsRC 0 ys ++ itRC y (6 * q + 4) (6 * q + 5) := by rw [hq]; simp
  rw [e]
  have h2 : AObj.cut N (.row E 16 (q + 1) (itsRC 0 ys ++ itRC y (6 * q + 4) (6 * q + 5))) = .row E 16 (q + 1) (itsRC 0 ys ++ itRC y (6 * q + 4) (6 * q + 5)) := by
    show AObj.row E 16 (q + 1) (AV.cuts N _) = _
    rw [cuts_append, itsRC_cut _ _ _ (by omega), itRC_cut (by omega) (by omega)]
  rw [h2]
  refine ⟨⟨⟨rfl, rfl, rfl⟩, wkR_refl _⟩, ?_⟩
  have key : ∀ ex : List AObj, (∀ o ∈ ex, wkL [o.cut N] [o]) → wkL (ex.map (AObj.cut N) ++ B.map (AObj.cut N)) (ex ++ itO6 y) := by
    intro ex
    induction ex with
    | nil => intro _; exact hBB
    | cons o ex ih => intro hc; exact wkL_cons (hc o (by simp)) (ih fun o ho => hc o (List.mem_cons_of_mem _ ho))
  exact key _ (itsO_wk N ys)
set_option maxRecDepth 100000 in
set_option maxHeartbeats 8000000 in
theorem everyR_Item (f : It → It) (l : List It) (hl : l.length ≤ 20000) (K : Nat) (caps : List AV) (L : List AObj) (R : ASt) (hc : ∀ x ∈ l, ∀ M, ADet Try.prog K (itV x :: AV.ups 1 caps) (M :: L :: R) (.agg (itRC (f x) (M.length + 2) (M.length + 3))) ((M ++ [.dead, .dead, .row 44 4 (f x).fields.length (rowC Fi.enc (f x).fields), .row 47 15 (f x).body.length (rowC St.enc (f x).body)]) :: L :: R)) :
    ADet Try.prog 41 [.p (.sl 16 (l.map It.enc)), .fn (.func K) [] caps] (L :: R) (.rsl 0 L.length l.length 16) ((L ++ (.row 39 16 l.length (itsRC L.length (l.map f)) :: itsO (l.map f))) :: R) := by
  refine ADet.okP Try.call41 0 rfl fun hok => ?_
  have hlen := okl hok
  refine ADet.merge mixed Try.call41 Try.func41 rfl ?_
  simp [Try.ntmps41]
  refine awp_loopR 39 16 (by decide) [] (fun q : Nat => q ≤ l.length) (fun q => [.p (.sl 16 (l.map It.enc)), .fn (.func K) [] (AV.ups 1 caps), .any, .any, .any, .rsl 0 0 q 16, .any, .any, .p (.sl 16 (l.map It.enc)), I l.length, I q, .any, .any, .any, .any, .any, .any, .any, .any, .any, .any, .any]) (fun q => (.row 39 16 q (itsRC 0 ((l.map f).take q)) :: itsO ((l.map f).take q)) :: L :: R) (fun q => l.length - q) (fun q => 1 + 6 * q) 0 (Nat.zero_le _) ?_ ?_ ?_ ?_ ?_
  · intro q _; simp [itsO]
  · simp
  · simp
  · simp [itsO, itsRC]
  intro q hq
  by_cases hlt : q < l.length
  · have hlt' : (q : Int) < (l.length : Int) := by omega
    have hx := fun M => hc _ (List.getElem_mem hlt) M
    have hfx : (l.map f)[q]'(by simpa using hlt) = f l[q] := by simp
    have htk : (l.map f).take (q + 1) = (l.map f).take q ++ [f l[q]] := by rw [List.take_add_one, List.getElem?_eq_getElem (by simpa using hlt), hfx]; rfl
    have hle : q + 1 ≤ 4294967296 := by omega
    have hysl : ((l.map f).take q).length = q := by simp; omega
    have hexl : (itsO ((l.map f).take q)).length = 6 * q := by rw [itsO_len, hysl]
    have hwk := fun (y : It) (B : List AObj) (hB : B.length = 6) hBB => wk_endI (E := 39) (y := y) (B := B) rfl hysl rfl rfl hB hBB
    generalize hrc : itsRC 0 ((l.map f).take q) = rc at *
    generalize hex : itsO ((l.map f).take q) = ex at *
    generalize hy : l[q] = x at *
    generalize f x = z at *
    generalize hM : 6 * q = M at *
    have hM1 : ∀ c, (M + c < M) = False := fun c => by simp
    simp [hlt, hlt', hy, It.enc, hexl, List.getElem?_append, hM1, -trim, -wkT]
    refine ⟨_, _, hx _, ?_⟩
    simp [hle, itRC, hexl, List.getElem?_append, hM1, -trim, -wkT]
    refine ⟨q + 1, hlt, by omega, ⟨by simp, wrap_succ hlt⟩, ?_⟩
    rw [htk]
    refine ⟨hwk z _ rfl ?_, rfl⟩
    simp [itO6, AObj.cut, wkL, rowC_cut, wkR_refl]
  · have hlt' : ¬ (q : Int) < (l.length : Int) := by omega
    have hql : q = l.length := by omega
    subst hql
    have ht : (l.map f).take l.length = l.map f := List.take_of_length_le (by simp)
    have hm := itsRC_mrg 0 L.length (l.map f)
    have hm2 := itsO_mrg L.length (l.map f)
    simp [ht, AV.mrg, AObj.mrg, hm, hm2]
/-- a copy of a program in rows: where its row is, what lies behind it -/
def prO (n : Nat) (ys : List It) : List AObj := .row 39 16 ys.length (itsRC n ys) :: itsO ys
theorem prO_mrg (m n : Nat) (ys : List It) : (prO n ys).map (AObj.mrg m) = prO (m + n) ys := by
  unfold prO
  rw [List.map_cons, itsO_mrg]
  show AObj.row _ 16 _ (AV.mrgs m _) :: _ = _
  rw [itsRC_mrg]
theorem prO_len (n : Nat) (ys : List It) : (prO n ys).length = 1 + 6 * ys.length := by unfold prO; rw [List.length_cons, itsO_len]; omega
set_option maxRecDepth 100000 in
set_option maxHeartbeats 16000000 in
theorem copiedR (F : Nat) (g : Int → Int) (hg : AtF F g) (p : List It) (hp : PrSm p) (L : List AObj) (R : ASt) : ADet Try.prog 25 [.agg [.p (prog p)], .fn (.func F) [] []] (L :: R) (.agg [.rsl 0 (L.length + 9) p.length 16]) ((L ++ (List.replicate 9 .dead ++ prO (L.length + 9) (p.map (It.atm g)))) :: R) := by
  have iC : ∀ M, CpAt F (M :: L :: R) 0 → ADet Try.prog 41 [.p (.sl 16 (p.map It.enc)), .fn (.func 42) [] [.ptr 0 8 0, .ptr 0 3 0, .ptr 0 5 0, .ptr 0 4 0, .ptr 0 1 0]] (M :: L :: R) (.rsl 0 M.length p.length 16) ((M ++ (.row 39 16 p.length (itsRC M.length (p.map (It.atm g))) :: itsO (p.map (It.atm g)))) :: L :: R) := fun M h =>
    everyR_Item (It.atm g) p hp.1 42 _ M (L :: R) fun x hx M' => by
      have := cpItemR F g hg x (hp.2 x hx) M' (M :: L :: R) _ (h.push M')
      simpa [AV.ups, AV.up, It.atm] using this
  have hl : (p.map (It.atm g)).length = p.length := by simp
  have m1 := itsRC_mrg 9 L.length (p.map (It.atm g))
  have m2 := itsO_mrg L.length (p.map (It.atm g))
  unfold prO
  rw [hl]
  generalize p.map (It.atm g) = ys at *
  refine ADet.mergeW mixed Try.call25 Try.func25 rfl ?_
  simp [Try.ntmps25, prog]
  refine ⟨_, _, iC _ ⟨rfl, rfl, rfl, rfl, rfl, rfl, rfl⟩, ?_⟩
  simp [AV.mrg, AV.mrgs, -wkL]
  rw [m2]
  refine (show wkL (AObj.row 39 16 p.length (AV.mrgs L.length (itsRC 9 ys)) :: itsO ys) (.row 39 16 p.length (itsRC (L.length + 9) ys) :: itsO ys) from ?_)
  rw [m1]
  exact ⟨⟨⟨rfl, rfl, rfl⟩, wkR_refl _⟩, wkL_selfs (itsO_wk 0 ys)⟩
theorem dead_mrg (m n : Nat) : (List.replicate n AObj.dead).map (AObj.mrg m) = List.replicate n .dead := by simp [AObj.mrg]
theorem prO_wk (N n : Nat) (ys : List It) (h : n + 6 * ys.length ≤ N) : ∀ o ∈ prO n ys, wkL [o.cut N] [o] := fun o ho => by
  unfold prO at ho
  rcases List.mem_cons.1 ho with rfl | ho
  · show wkL [AObj.row _ 16 _ (AV.cuts N _)] _
    rw [itsRC_cut _ _ _ h]
    exact ⟨⟨⟨rfl, rfl, rfl⟩, wkR_refl _⟩, trivial⟩
  · exact itsO_wk N ys o ho
set_option maxRecDepth 100000 in
theorem copyR (p : List It) (hp : PrSm p) (L : List AObj) (R : ASt) : ADet Try.prog 17 [.agg [.p (prog p)]] (L :: R) (.agg [.rsl 0 (L.length + 11) p.length 16]) ((L ++ (List.replicate 11 .dead ++ prO (L.length + 11) p)) :: R) := by
  have hg : AtF 26 (fun n => n) := fun n S => by
    refine ADet.intro mixed Try.call26 Try.func26 rfl ?_
    simp [Try.ntmps26]
  have hid : p.map (It.atm fun n => n) = p := by
    conv => rhs; rw [← List.map_id p]
    exact List.map_congr_left fun x _ => itAtmId x
  have cC := fun M => copiedR 26 _ hg p hp M (L :: R)
  rw [hid] at cC
  have m1 := prO_mrg L.length 11 p
  have hwk := wkL_selfs (prO_wk _ (L.length + 11) p (Nat.le_refl _))
  refine ADet.mergeW mixed Try.call17 Try.func17 rfl ?_
  simp [Try.ntmps17]
  refine ⟨_, _, cC _, ?_⟩
  simp [AV.mrg, AV.mrgs, -wkL, m1]
  exact hwk
end Go.Proofs.Ytlfgjnnecglleaa
