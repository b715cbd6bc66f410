/- A result that is an own list: it goes over to the caller. No statement is proved here. -/
import Derived.Test.YtldglgdejmljnaaGreatDoorMLt
namespace Go.Proofs.YtldglgdejmljnaaGreatDoor
open Go.RowKit
set_option linter.unusedVariables false

/-- what a body's end says, where the result is an own list -/
def RetGift (P : Program) (rs : List ResultVar) (E : TypeId) (k : Nat) (rows : List (List PV)) (S' : ASt) : Exit → List AV → ASt → Prop := fun e fr S1 =>
  (e = .normal ∨ e = .ret) ∧ ∃ vs j, resA P fr S1 rs = some vs ∧ retA vs = .osl k rows 0 j ∧ get2 S1 0 j = some (.tok E k rows.length) ∧ S1.tail = S'

theorem get2_gift {α : Type} {l : List α} {φ : List (List α)} {x : α} {d i : Nat} {e : α} (h : get2 ((l ++ [x]) :: φ) d i = some e) : get2 (l :: φ) d i = some e ∨ (d = 0 ∧ i = l.length ∧ e = x) := by
  cases d with
  | succ d => exact .inl h
  | zero =>
    simp only [get2, List.getElem?_cons_zero, Option.bind_some] at h
    rcases Nat.lt_or_ge i l.length with hi | hi
    · rw [List.getElem?_append_left hi] at h; exact .inl h
    · rw [List.getElem?_append_right hi] at h
      have : i - l.length = 0 := by
        rcases Nat.eq_zero_or_pos (i - l.length) with h0 | h0
        · exact h0
        · rw [List.getElem?_eq_none (by simp; omega)] at h; cases h
      rw [this] at h
      cases h
      exact .inr ⟨rfl, by omega, rfl⟩
theorem get2_old {α : Type} {l : List α} {φ : List (List α)} {x : α} {d i : Nat} {e : α} (h : get2 (l :: φ) d i = some e) : get2 ((l ++ [x]) :: φ) d i = some e := by
  cases d with
  | succ d => exact h
  | zero =>
    simp only [get2, List.getElem?_cons_zero, Option.bind_some] at h ⊢
    rw [List.getElem?_append_left (List.getElem?_eq_some_iff.1 h).1]; exact h
theorem get2_new {α : Type} (l : List α) (φ : List (List α)) (x : α) : get2 ((l ++ [x]) :: φ) 0 l.length = some x := by
  simp [get2]
theorem fle_gift (l : List Ent) (φ : Fi2) (x : Ent) : Fle (l :: φ) ((l ++ [x]) :: φ) := fun d i e h => ⟨e, get2_old h, e.le_refl⟩

theorem ADet.gift {P : Program} {K : FuncId} {args : List AV} {S : ASt} {L : List AObj} {R : ASt} {E : TypeId} {k : Nat} {rows : List (List PV)} {fn : Func} {c : Code} (hm : P.follows .mixedOrders = true) (hK : ∀ xs w, (callFunc K xs).run P w = .ok (.enter K xs) w) (hf : P.funcs[K]? = some fn) (hb : fn.body = some c)
    (h : awp P c (AV.ups 1 args ++ List.replicate (fn.ntmps - args.length) .un) ([] :: S) (RetGift P fn.results.toList E k rows (L :: R))) : ADet P K args S (.osl k rows 0 L.length) ((L ++ [.tok E k rows.length]) :: R) := by
  refine ⟨hK, fun Pr φ xs w hargs hR hne => ?_⟩
  refine calls_of_wp hf hb ?_
  have hfr : RF Pr ([] :: φ) (AV.ups 1 args ++ List.replicate (fn.ntmps - args.length) .un) { tmps := xs ++ Array.replicate (fn.ntmps - xs.size) undef, defers := [] } := by
    refine ⟨by simp [ups_len, hargs.1], fun t v x hv hx => ?_⟩
    rcases Nat.lt_or_ge t args.length with ht | ht
    · rw [List.getElem?_append_left (by rw [ups_len]; exact ht), ups_get] at hv
      obtain ⟨v0, h0, rfl⟩ := Option.map_eq_some_iff.1 hv
      simp only at hx
      rw [Array.getElem?_append_left (by rw [← hargs.1]; exact ht)] at hx
      exact RA.up (k := 1) (hargs.2 t v0 x h0 hx)
    · rw [List.getElem?_append_right (by rw [ups_len]; exact ht)] at hv
      simp only at hx
      rw [Array.getElem?_append_right (by rw [← hargs.1]; exact ht)] at hx
      rw [List.getElem?_replicate] at hv
      rw [Array.getElem?_replicate] at hx
      split at hv
      · split at hx
        · cases hv; cases hx; exact .un
        · cases hx
      · cases hv
  refine wp_mono (awp_ok hm c _ Pr ([] :: φ) _ _ ([] :: S) w hfr (rel_push hR) (by simp) h) fun e a' w' hp => ?_
  obtain ⟨fr', S1, Pr', φ', ⟨he, vs, j, h1, h2, hj, h3⟩, h4, h5, h6, h7⟩ := hp
  obtain ⟨x, hx, hrun⟩ := results_ok (P := P) (fn := fn) h4 h5 h1
  rw [h2] at hx
  have hne' : φ' ≠ [] := ne_of_stp h6 (by simp)
  obtain ⟨l', φ0, rfl⟩ := List.exists_cons_of_ne_nil hne'
  have hS1 : S1 ≠ [] := fun h0 => by have := h5.shape; rw [h0] at this; simp at this
  obtain ⟨L', S2, rfl⟩ := List.exists_cons_of_ne_nil hS1
  simp only [List.tail_cons] at h3
  subst h3
  have hpop := rel_pop h5
  have spop := stp_pop h6
  have hne0 : φ0 ≠ [] := fun h0 => by have := hpop.shape; rw [h0] at this; simp at this
  obtain ⟨l, φ1, rfl⟩ := List.exists_cons_of_ne_nil hne0
  have hlen : l.length = L.length := by have := hpop.shape; simp at this; exact this.1
  -- the list's entry
  obtain ⟨e0, he0, ho0⟩ := h5.obj 0 j _ hj
  have ho0' : RelO Pr' ((l ++ [e0]) :: φ1) w' (.tok E k rows.length) e0 := ho0
  have hF := fle_gift l φ1 e0
  have hR2 : Rel Pr' ((l ++ [e0]) :: φ1) ((L ++ [.tok E k rows.length]) :: R) w' := by
    refine ⟨fun d i o ho => ?_, fun d i e d' i' e' g a b c f => ?_, fun d i e g a b => ?_, hpop.pr, fun g cs hmem => ?_, ?_⟩
    · rcases get2_gift ho with ho | ⟨rfl, rfl, rfl⟩
      · obtain ⟨e, k1, k2⟩ := hpop.obj d i o ho
        exact ⟨e, get2_old k1, k2.keep (Prot.le_refl _) (hF.drop d) fun g _ => ⟨rfl, fun _ h => h⟩⟩
      · exact ⟨e0, by rw [← hlen]; exact get2_new l φ1 e0, ho0'⟩
    · rcases get2_gift a with a1 | ⟨a1, a2, a3⟩
      · rcases get2_gift b with b1 | ⟨b1, b2, b3⟩
        · exact hpop.dis d i e d' i' e' g a1 b1 c f
        · rw [b3] at f
          have := (h5.dis 0 j _ (d + 1) i e g he0 a1 f c).1; omega
      · rcases get2_gift b with b1 | ⟨b1, b2, b3⟩
        · rw [a3] at c
          have := (h5.dis 0 j _ (d' + 1) i' e' g he0 b1 c f).1; omega
        · exact ⟨a1.trans b1.symm, a2.trans b2.symm⟩
    · rcases get2_gift a with a | ⟨rfl, rfl, rfl⟩
      · exact hpop.lt d i e g a b
      · exact h5.lt 0 j _ g he0 b
    · obtain ⟨t1, t2, t3, t4⟩ := hpop.tb g cs hmem
      refine ⟨t1, t2, t3, fun d i e a => ?_⟩
      rcases get2_gift a with a | ⟨rfl, rfl, rfl⟩
      · exact t4 d i e a
      · exact (h5.tb g cs hmem).2.2.2 0 j _ he0
    · have := hpop.shape
      simp at this ⊢
      exact ⟨by omega, this.2⟩
  have hS2 : Stp Pr φ w Pr' ((l ++ [e0]) :: φ1) w' := by
    refine ⟨spop.pl, spop.fl.trans hF, fun d i e g a b => ?_, spop.fr, ?_, spop.pn⟩
    · rcases get2_gift a with a | ⟨rfl, rfl, rfl⟩
      · exact spop.fresh d i e g a b
      · rcases h6.fresh 0 j _ g he0 b with ⟨d0, i0, e1, k1, k2⟩ | k1
        · cases d0 with
          | zero => simp [get2] at k1
          | succ d0 => exact .inl ⟨d0, i0, e1, k1, k2⟩
        · exact .inr k1
    · have := spop.len; simpa using this
  have hx2 : RA Pr' ((l ++ [e0]) :: φ1) (.osl k rows 0 L.length) x := by
    cases hx with
    | onil a1 a2 a3 =>
      rw [he0] at a1; cases a1
      exact .onil (by rw [← hlen]; exact get2_new l φ1 e0) a2 a3
    | osl vs a1 a2 a3 a4 a5 a6 a7 a8 a9 a10 =>
      rw [he0] at a1; cases a1
      exact .osl vs (by rw [← hlen]; exact get2_new l φ1 e0) a2 a3 a4 a5 a6 a7 a8 a9 a10
  have key : a'.defers = [] ∧ ∃ v, (results fn a'.tmps).run P w' = .ok v w' ∧ ∃ x Pr' φ', Ending.returned v = .returned x ∧ Stp Pr φ w Pr' φ' w' ∧ Rel Pr' φ' ((L ++ [.tok E k rows.length]) :: R) w' ∧ RA Pr' φ' (.osl k rows 0 L.length) x :=
    ⟨h7, x, hrun, x, Pr', _, rfl, hS2, hR2, hx2⟩
  rcases he with rfl | rfl
  · exact key
  · exact key
end Go.Proofs.YtldglgdejmljnaaGreatDoor
