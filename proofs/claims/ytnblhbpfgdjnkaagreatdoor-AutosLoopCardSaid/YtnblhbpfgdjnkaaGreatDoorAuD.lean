/- autos.answer's closure: its contract. No statement is proved here. -/
import Derived.Test.YtnblhbpfgdjnkaaGreatDoorAuC
namespace Go.Proofs.YtnblhbpfgdjnkaaGreatDoor
open Go.RowKit
attribute [local simp] List.replicate List.range List.range.loop resA resOne retA AV.cuts AV.cut AObj.cut trim wkR wkT wkL wkN wkNR wkNL wkM wkMR wkML virtL virtO virt_get markL markO markR_get rowA awpI_nil awpI_cons List.forall_mem_cons List.contains_cons List.contains_nil List.find? nextD_eq awpD_nil awpD_cons LCp LCl refL
set_option linter.unusedVariables false
set_option linter.unusedSimpArgs false
set_option maxRecDepth 100000 in
set_option maxHeartbeats 32000000 in
theorem forbC (p : List It) (hp : PrSm p) (t0 : Ty) (b0 : Bool) : ∀ (n : Nat) (t : Ty) (b : Bool) (a : Asked) (r : Bool × Asked), TySm t → forbF p n (t, b) a = some r → ∀ (X S : ASt), ADet Tryz.prog 80 [qV t b, .ptr X.length 3 0, .ptr X.length 0 0, .ptr X.length 4 0] (X ++ lvA p t0 b0 a :: S) (B r.1) (X ++ lvA p t0 b0 r.2 :: S) := by
  intro n
  induction n with
  | zero => intro t b a r ht h; cases h
  | succ n ih =>
  intro t b a r ht h X S
  unfold forbF at h
  have nC := fun S => neverC t b S
  have hlv : ∀ a, lvA p t0 b0 a = [.cells [.p (prog p)] 24, .cells (qCs t0 b0) 90, .map (encA a), .cells [.mp 0 2] 126, .cells [.fn (.func 80) [] [.ptr 0 3 0, .ptr 0 0 0, .ptr 0 4 0]] 127] := fun a => rfl
  refine ADet.introQ mixed Tryz.call80 Tryz.func80 rfl (by kernel_rfl) ?_
  by_cases h4 : t.kind = 4
  · rw [if_pos h4] at h
    have hn : neverQ t b = false := by unfold neverQ; rw [h4]; cases b <;> rfl
    rw [hn] at nC
    have h4b : (t.kind == 4) = true := by rw [h4]; rfl
    have hw1 : IntKind.i64.wrap 1 = 1 := by decide
    have aC := fun a0 a1 a2 S => asks3C p t b a0 a1 a2 S
    rcases bump_cases t.name b a 0 with ⟨e1, e2⟩ | ⟨j, m, e1, e2, e3, e4, e5⟩
    · rw [e2, if_neg (by simp)] at h
      have e3 := fun v => mf2_new t.name b v (encA a) 0 e1
      have e4 : encA (a ++ [((t.name, b), 1)]) = encA a ++ [(.agg #[.string t.name, .bool b], I 1)] := by simp [encA]
      simp only [Nat.zero_add] at e3
      simp [Tryz.ntmps80, h4b, get2_app, set2_app, hlv]
      refine awq_of (c := .skip) (fun _ _ _ => trivial) (awp_orders [[0, 1, 2, 3, 4, 5, 6], [0, 1, 2, 4, 3, 5, 6], [0, 1, 2, 4, 5, 3, 6], [0, 1, 4, 2, 3, 5, 6], [0, 1, 4, 2, 5, 3, 6], [0, 1, 4, 5, 2, 3, 6], [1, 0, 2, 3, 4, 5, 6], [1, 0, 2, 4, 3, 5, 6], [1, 0, 2, 4, 5, 3, 6], [1, 0, 4, 2, 3, 5, 6], [1, 0, 4, 2, 5, 3, 6], [1, 0, 4, 5, 2, 3, 6]] (by kernel_rfl) ?_)
      simp [get2_app, set2_app, e1, e3, hw1]
      refine ⟨_, _, nC _, ?_⟩
      simp [get2_app, set2_app]
      refine ⟨_, _, aC _ _ _ _, ?_⟩
      simp
      rw [awq]
      have hr := askAll_flag _ _ _ _ h
      refine ⟨126, [.ptr 0 3 0, .ptr 0 4 0], rfl, rfl, rfl, jB r.1, [.cells (qCs t b) 90, .cells [Sg t.name, B b] 129, .cells [B r.1] 4, .cells (qCs t b) 90, .cells [.p (prog p)] 24] :: (X ++ lvA p t0 b0 r.2 :: S), fun lp R hY => ADet.less (.any .un) ?_, ?_⟩
      · have key := asksItC p hp t ht b _ (fun x : Bool × Asked => [.cells (qCs t b) 90, .cells [Sg t.name, B b] 129, .cells [B x.1] 4, .cells (qCs t b) 90, .cells [.p (prog p)] 24] :: (X ++ lvA p t0 b0 x.2 :: S)) 3 (fun _ => rfl) (fun _ => rfl) lp R (fun L u c x s hm hf => ?_) (false, a ++ [((t.name, b), 1)]) (r.1, (r.1, r.2)) hr
        · simp only [hlv, e4] at key ⊢
          exact key
        obtain ⟨x1, x2⟩ := x
        cases x1 with
        | true => simp at hf
        | false =>
        simp only [Bool.false_eq_true, if_false] at hf
        obtain ⟨⟨s1, s2⟩, hs, rfl⟩ := Option.map_eq_some_iff.1 hf
        have iC := fun FL => ih u c x2 _ (asks_sm hp ht hm) hs (FL :: X) S
        simp only [List.length_cons, List.cons_append] at iC
        cases s1 with
        | true =>
          refine hY L [qV u c] _ _ (some (.exit 0)) _ rfl ⟨rfl, by simp, ?_⟩
          simp [setPs, ROk, get2_app, hlv]
          simp only [← hlv]
          refine ⟨_, _, iC _, ?_⟩
          simp [ROk]
        | false =>
          refine hY L [qV u c] _ _ none _ rfl ⟨rfl, by simp, ?_⟩
          simp [setPs, ROk, get2_app, hlv]
          simp only [← hlv]
          refine ⟨_, _, iC _, ?_⟩
          simp [ROk]
      · cases hr1 : r.1 with
        | true =>
          simp [jB, JQ]
          exact hlv _
        | false =>
          simp [jB, JQ]
          exact hlv _
    · have e6 : (encA a).set j (.agg #[.string t.name, .bool b], I m) = encA a := by
        obtain ⟨hj, he⟩ := List.getElem?_eq_some_iff.1 e5
        rw [← he]; exact List.set_getElem_self hj
      have e7 := fun v => mf2_set t.name b v (I m) (encA a) 0 j e1
      simp only [Nat.zero_add] at e1 e7
      rw [e3] at h
      have hj : j < (encA a).length := (List.getElem?_eq_some_iff.1 e5).1
      generalize hwm : IntKind.i64.wrap (m + 1) = c at *
      generalize hab : (bumpA t.name b a).1 = a1 at *
      simp [Tryz.ntmps80, h4b, get2_app, set2_app, hlv]
      refine awq_of (c := .skip) (fun _ _ _ => trivial) (awp_orders [[0, 1, 2, 3, 4, 5, 6], [0, 1, 2, 4, 3, 5, 6], [0, 1, 2, 4, 5, 3, 6], [0, 1, 4, 2, 3, 5, 6], [0, 1, 4, 2, 5, 3, 6], [0, 1, 4, 5, 2, 3, 6], [1, 0, 2, 3, 4, 5, 6], [1, 0, 2, 4, 3, 5, 6], [1, 0, 2, 4, 5, 3, 6], [1, 0, 4, 2, 3, 5, 6], [1, 0, 4, 2, 5, 3, 6], [1, 0, 4, 5, 2, 3, 6]] (by kernel_rfl) ?_)
      by_cases hc : 1 < c
      · rw [if_pos hc] at h
        cases h
        simp [get2_app, set2_app, e1, e5, e6, e7, hwm, hc, hlv, e4]
      rw [if_neg hc] at h
      simp [get2_app, set2_app, e1, e5, e6, e7, hwm, hc]
      refine ⟨_, _, nC _, ?_⟩
      simp [get2_app, set2_app]
      refine ⟨_, _, aC _ _ _ _, ?_⟩
      simp
      rw [awq]
      have hr := askAll_flag _ _ _ _ h
      refine ⟨126, [.ptr 0 3 0, .ptr 0 4 0], rfl, rfl, rfl, jB r.1, [.cells (qCs t b) 90, .cells [Sg t.name, B b] 129, .cells [B r.1] 4, .cells (qCs t b) 90, .cells [.p (prog p)] 24] :: (X ++ lvA p t0 b0 r.2 :: S), fun lp R hY => ADet.less (.any .un) ?_, ?_⟩
      · have key := asksItC p hp t ht b _ (fun x : Bool × Asked => [.cells (qCs t b) 90, .cells [Sg t.name, B b] 129, .cells [B x.1] 4, .cells (qCs t b) 90, .cells [.p (prog p)] 24] :: (X ++ lvA p t0 b0 x.2 :: S)) 3 (fun _ => rfl) (fun _ => rfl) lp R (fun L u c x s hm hf => ?_) (false, a1) (r.1, (r.1, r.2)) hr
        · simp only [hlv, e4] at key ⊢
          exact key
        obtain ⟨x1, x2⟩ := x
        cases x1 with
        | true => simp at hf
        | false =>
        simp only [Bool.false_eq_true, if_false] at hf
        obtain ⟨⟨s1, s2⟩, hs, rfl⟩ := Option.map_eq_some_iff.1 hf
        have iC := fun FL => ih u c x2 _ (asks_sm hp ht hm) hs (FL :: X) S
        simp only [List.length_cons, List.cons_append] at iC
        cases s1 with
        | true =>
          refine hY L [qV u c] _ _ (some (.exit 0)) _ rfl ⟨rfl, by simp, ?_⟩
          simp [setPs, ROk, get2_app, hlv]
          simp only [← hlv]
          refine ⟨_, _, iC _, ?_⟩
          simp [ROk]
        | false =>
          refine hY L [qV u c] _ _ none _ rfl ⟨rfl, by simp, ?_⟩
          simp [setPs, ROk, get2_app, hlv]
          simp only [← hlv]
          refine ⟨_, _, iC _, ?_⟩
          simp [ROk]
      · cases hr1 : r.1 with
        | true =>
          simp [jB, JQ]
          exact hlv _
        | false =>
          simp [jB, JQ]
          exact hlv _
  · rw [if_neg h4] at h
    have h4' : (t.kind == 4) = false := by simpa using h4
    simp [Tryz.ntmps80, h4']
    refine ⟨_, _, nC _, ?_⟩
    cases hn : neverQ t b with
    | true =>
      rw [hn, if_pos rfl] at h
      cases h
      simp
    | false =>
    rw [hn, if_neg (by simp)] at h
    have aC := fun a0 a1 S => asks2C p t b a0 a1 S
    simp [get2_app, hlv]
    refine ⟨_, _, aC _ _ _, ?_⟩
    simp
    rw [awq]
    have hr := askAll_flag _ _ _ _ h
    refine ⟨126, [.ptr 0 2 0, .ptr 0 3 0], rfl, rfl, rfl, jB r.1, [.cells (qCs t b) 90, .cells [B r.1] 4, .cells (qCs t b) 90, .cells [.p (prog p)] 24] :: (X ++ lvA p t0 b0 r.2 :: S), fun lp R hY => ADet.less (.any _) (asksItC p hp t ht b _ (fun x : Bool × Asked => [.cells (qCs t b) 90, .cells [B x.1] 4, .cells (qCs t b) 90, .cells [.p (prog p)] 24] :: (X ++ lvA p t0 b0 x.2 :: S)) 2 (fun _ => rfl) (fun _ => rfl) lp R (fun L u c x s hm hf => ?_) (false, a) (r.1, (r.1, r.2)) hr), ?_⟩
    · obtain ⟨x1, x2⟩ := x
      cases x1 with
      | true => simp at hf
      | false =>
      simp only [Bool.false_eq_true, if_false] at hf
      obtain ⟨⟨s1, s2⟩, hs, rfl⟩ := Option.map_eq_some_iff.1 hf
      have iC := fun FL => ih u c x2 _ (asks_sm hp ht hm) hs (FL :: X) S
      simp only [List.length_cons, List.cons_append] at iC
      cases s1 with
      | true =>
        refine hY L [qV u c] _ _ (some (.exit 0)) _ rfl ⟨rfl, by simp, ?_⟩
        simp [setPs, ROk, get2_app, hlv]
        simp only [← hlv]
        refine ⟨_, _, iC _, ?_⟩
        simp [ROk]
      | false =>
        refine hY L [qV u c] _ _ none _ rfl ⟨rfl, by simp, ?_⟩
        simp [setPs, ROk, get2_app, hlv]
        simp only [← hlv]
        refine ⟨_, _, iC _, ?_⟩
        simp [ROk]
    · cases hr1 : r.1 with
      | true =>
        simp [jB, JQ]
        exact hlv _
      | false =>
        simp [jB, JQ]
        exact hlv _
end Go.Proofs.YtnblhbpfgdjnkaaGreatDoor
