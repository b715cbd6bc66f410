/- May a type stand? Is a type whole? The reference's. -/
import Derived.Test.YtkgpkbclfncnfaaDoorStands
import Derived.Test.YtkgpkbclfncnfaaDoorLexR
namespace Go.Proofs.YtkgpkbclfncnfaaDoor
open Go.RowKit
set_option linter.unusedVariables false

theorem beq0 (n : Nat) : ((n : Int) == 0) = decide (n = 0) := by
  by_cases h : n = 0 <;> simp [h]

-- ref03.Type
set_option maxRecDepth 100000 in
set_option maxHeartbeats 2000000 in
theorem ref03Type_any : ∀ (t : Ty) (S : Nat → Prop) (f : Nat → Value) (d : Int) (w : World), TyIn w S t f → -1 ≤ d → d ≤ 1000 →
    Calls Tryd.prog 6 #[.agg #[f 0, f 1, f 2], .int .i64 d] w fun e w' => e = .returned (.bool (t.whole d)) ∧ Below w.heap.size w w' := by
  refine Ty.ind fun t ih S f d w h hd1 hd2 => ?_
  obtain ⟨h0, hk0, hk1, h1, hs, hsl⟩ := TyIn.iff.1 h
  obtain ⟨A, cap, h2, hl, hc, hel⟩ := hsl.open_
  have Hih := Lib.hid ih
  have Ht := Lib.hid (fun w1 => refType_any t.name hs w1)
  rw [h0, h1, h2]
  clear ih h0 h1 h2 hsl h
  have hbd : Hid (∀ o, Below w.heap.size w (w.alloc o)) := fun o => (Below.refl _ _).alloc (Nat.le_refl _) _
  by_cases hd : 0 < d
  · by_cases hkr : 1 ≤ t.kind ∧ t.kind ≤ 14
    · obtain ⟨hkr1, hkr2⟩ := hkr
      by_cases hk4 : t.kind = 4
      · have hv := Lib.hid (whole_named hd hk4)
        have hk4' := Lib.hid hk4
        obtain ⟨n, hn⟩ : ∃ n, t.args.length = n := ⟨_, rfl⟩
        rw [hn] at hv
        rw [hn, hk4]
        clear hel Hih hk4 hl hn hkr1 hkr2 hk0 hk1
        cases htb : typeB t.name with
        | false =>
          rw [htb] at Ht hv
          clear htb
          go_enter Tryd.func6, Tryd.ntmps6
          go_wp2_with (go_at_call 11; refine (Ht.out _).mono ?_; rintro e w1 ⟨rfl, hb⟩)
          go_ret
          exact ⟨by rw [hv.out]; rfl, (hbd.out _).trans (hb.mono (by simp))⟩
        | true =>
          rw [htb] at Ht hv
          clear htb
          go_enter Tryd.func6, Tryd.ntmps6
          go_wp2_with fail
          refine (Ht.out _).mono ?_
          rintro e w1 ⟨rfl, hb⟩
          have k2 : w1.cell? ⟨w.heap.size, 2, none⟩ = some (.slice A n cap) := by rw [(bcell hb).1 _ _ (by simp)]; simp [go_sem]
          have hb1 := (hbd.out _).trans (hb.mono (by simp))
          clear hb
          go_wp2
          go_ret
          exact ⟨by rw [hv.out]; simp [beq0], hb1⟩
      · have e4 : (t.kind == 4) = false := by simpa using hk4
        cases hpk : plainKind t.kind with
        | true =>
          have hv := Lib.hid (whole_plain hd hpk)
          have hk : t.kind = 1 ∨ t.kind = 2 ∨ t.kind = 3 ∨ t.kind = 10 := by simpa [plainKind, or_assoc] using hpk
          obtain ⟨n, hn⟩ : ∃ n, t.args.length = n := ⟨_, rfl⟩
          rw [hn] at hv
          rw [hn]
          generalize hkk : t.kind = k at *
          clear hpk hel Hih hk4 hn hkk hl Ht hk0 hk1 hkr1 hkr2 e4
          by_cases he : t.name.toList = []
          · have he' : t.name.toList.isEmpty = true := by rw [he]; rfl
            rcases hk with rfl | rfl | rfl | rfl
            all_goals
              go_enter Tryd.func6, Tryd.ntmps6
              go_wp2
              go_ret
              exact ⟨by rw [hv.out, he']; simp [beq0], hbd.out _⟩
          · have he' : t.name.toList.isEmpty = false := by simpa using he
            rcases hk with rfl | rfl | rfl | rfl
            all_goals
              go_enter Tryd.func6, Tryd.ntmps6
              go_wp2
              go_ret
              exact ⟨by rw [hv.out, he']; rfl, hbd.out _⟩
        | false =>
          have hv := Lib.hid (whole_wrap hd hkr1 hkr2 hpk hk4)
          have hk : (¬ t.kind = 1 ∧ ¬ t.kind = 2) ∧ ¬ t.kind = 3 ∧ ¬ t.kind = 10 := by simp [plainKind] at hpk; omega
          have e1 : (t.kind == 1) = false := by simpa using hk.1.1
          have e2 : (t.kind == 2) = false := by simpa using hk.1.2
          have e3 : (t.kind == 3) = false := by simpa using hk.2.1
          have e10 : (t.kind == 10) = false := by simpa using hk.2.2
          clear hpk hk hk4 Ht
          by_cases he : t.name.toList = []
          · have he' : t.name.toList.isEmpty = true := by rw [he]; rfl
            by_cases hn1 : t.args.length = 1
            · obtain ⟨b, off, rfl, _, g, hg, hcell⟩ := hel.out (w.alloc (.cells #[.int .u8 t.kind, .string t.name, .slice A t.args.length cap] 24)) (Keeps.of_below (hbd.out _)) 0 (by omega)
              have d0 : (w.alloc (.cells #[.int .u8 t.kind, .string t.name, .slice (some ⟨b, off, none⟩) t.args.length cap] 24)).cell? ⟨b, off, none⟩ = some (g 0) := by simpa using (hcell 0 (by omega)).1
              have d1 := by simpa using (hcell 1 (by omega)).1
              have d2 := by simpa using (hcell 2 (by omega)).1
              have Hc := Lib.hid (fun o => Hih.out _ (List.getElem_mem (by omega : 0 < t.args.length)) S g (d - 1) (w.alloc o) (hg.mono (Keeps.of_below (hbd.out o)) (fun _ h => h)) (by omega) (by omega))
              have hsum : Hid (t.whole d = (t.args[0].whole (d - 1))) := Lib.hid (by
                rw [hv.out, he']
                obtain ⟨x, hx⟩ := List.length_eq_one_iff.1 hn1
                simp [hx])
              rw [hn1] at d0 d1 d2
              rw [hn1]
              clear hcell hel Hih hl hg hv
              go_enter Tryd.func6, Tryd.ntmps6
              go_wp2_with (go_at_call 6; refine (Hc.out _).mono ?_; rintro e w1 ⟨rfl, hb⟩)
              go_ret
              exact ⟨by rw [hsum.out]; rfl, (hbd.out _).trans (hb.mono (by simp))⟩
            · have hn1' : ((t.args.length : Int) == 1) = false := by simp; omega
              clear Hih hel
              go_enter Tryd.func6, Tryd.ntmps6
              go_wp2
              go_ret
              exact ⟨by rw [hv.out]; simp [hn1], hbd.out _⟩
          · have he' : t.name.toList.isEmpty = false := by simpa using he
            clear Hih hel
            go_enter Tryd.func6, Tryd.ntmps6
            go_wp2
            go_ret
            exact ⟨by rw [hv.out, he']; rfl, hbd.out _⟩
    · have hv := Lib.hid (whole_out (d := d) hkr)
      clear Hih hel Ht
      rcases (by omega : t.kind < 1 ∨ (¬ t.kind < 1 ∧ 14 < t.kind)) with hk1' | ⟨hk1', hk2'⟩
      all_goals clear hkr
      all_goals
        go_enter Tryd.func6, Tryd.ntmps6
        go_wp2
        go_ret
        exact ⟨by rw [hv.out]; rfl, hbd.out _⟩
  · have hv := Lib.hid (whole_neg (t := t) hd)
    clear Hih hel Ht
    go_enter Tryd.func6, Tryd.ntmps6
    go_wp2
    go_ret
    exact ⟨by rw [hv.out]; rfl, hbd.out _⟩

-- ref07.Stands
set_option maxRecDepth 100000 in
set_option maxHeartbeats 2000000 in
theorem standsR_any : ∀ (t : Ty) (S : Nat → Prop) (f : Nat → Value) (w : World), TyIn w S t f →
    Calls Tryd.prog 7 #[.agg #[f 0, f 1, f 2]] w fun e w' => e = .returned (.bool t.standsR) ∧ Below w.heap.size w w' := by
  refine Ty.ind fun t ih S f w h => ?_
  obtain ⟨h0, hk0, hk1, h1, hs, hsl⟩ := TyIn.iff.1 h
  obtain ⟨A, cap, h2, hl, hc, hel⟩ := hsl.open_
  have Hih := Lib.hid ih
  have hv := Lib.hid (standsR_eq t)
  have e6 : (t.kind == 6) = (t.kind == 6) := rfl
  generalize hb6 : (t.kind == 6) = b6 at hv e6
  clear e6
  have e13 : (t.kind != 13) = !(t.kind == 13) := rfl
  have e14 : (t.kind != 14) = !(t.kind == 14) := rfl
  generalize hb13 : (t.kind == 13) = b13 at hv e13
  generalize hb14 : (t.kind == 14) = b14 at hv e14
  rw [h0, h1, h2]
  clear ih h0 h1 h2 hsl h
  go_enter Tryd.func7, Tryd.ntmps7
  go_wp2
  go_loopw [3] (fun i wr => ∃ q : Nat, q ≤ t.args.length ∧ i = .int .i64 q ∧ AllTo (fun x => (x.standsR && okR b6 (b13 || b14) x) = true) t.args q ∧ Below w.heap.size w wr ∧ wr.heap[w.heap.size]? = some (.cells #[.int .u8 t.kind, .string t.name, .slice A t.args.length cap] 24))  (fun i _ => t.args.length - (intOf i).toNat)
  case atStart => exact ⟨0, Nat.zero_le _, rfl, AllTo.zero _ _, (Below.refl _ _).alloc (Nat.le_refl _) _, blk_new _ _⟩
  case round =>
    obtain ⟨q, hq, rfl, hall, hb, hblk⟩ := hrel
    have c0 : wr.cell? ⟨w.heap.size, 0, none⟩ = some (.int .u8 t.kind) := cell_blk hblk 0
    have c2 : wr.cell? ⟨w.heap.size, 2, none⟩ = some (.slice A t.args.length cap) := cell_blk hblk 2
    have hz : w.heap.size < wr.heap.size := blk_lt hblk
    have Hblk := Lib.hid hblk
    have Hall := Lib.hid hall
    clear hblk hall
    by_cases hlt : q < t.args.length
    · obtain ⟨b, off, rfl, _, g, hg, hcell⟩ := hel.out wr (Keeps.of_below hb) q hlt
      obtain ⟨hx0, -, -, -, -, -⟩ := TyIn.iff.1 hg
      obtain ⟨kx, hkx⟩ : ∃ kx, t.args[q].kind = kx := ⟨_, rfl⟩
      rw [hkx] at hx0
      have Hkx := Lib.hid hkx
      have hba : Hid (∀ o, Below w.heap.size w (wr.alloc o)) := fun o => hb.alloc (by omega) o
      have Hg := Lib.hid (fun w2 hb2 => hg.mono (Keeps.of_below (hb2 : Below w.heap.size w w2)) (fun _ h => h))
      have d0 : wr.cell? ⟨b, off + q * 3, none⟩ = some (g 0) := (hcell 0 (by omega)).1
      have d1 := (hcell 1 (by omega)).1
      have d2 := (hcell 2 (by omega)).1
      have o0 := fun a w => run_store Tryd.prog w a (g 0) .plain (hg.one 0 (by omega))
      have o1 := fun a w => run_store Tryd.prog w a (g 1) .plain (hg.one 1 (by omega))
      have o2 := fun a w => run_store Tryd.prog w a (g 2) .plain (hg.one 2 (by omega))
      have Hx0 := Lib.hid hx0
      clear hcell hg hx0 hkx
      go_wp2_with fail
      refine (Hih.out _ (List.getElem_mem hlt) S g _ (Hg.out _ (hba.out _))).mono ?_
      rintro e w1 ⟨rfl, hb1⟩
      have hb1w := (hba.out (.cells #[g 0, g 1, g 2] 24)).trans (hb1.mono (by simp; omega))
      have hz1 : wr.heap.size + 1 ≤ w1.heap.size := by have := hb1.size; simpa using this
      have k0 : w1.cell? ⟨w.heap.size, 0, none⟩ = some (.int .u8 t.kind) := by rw [(bcell hb1).1 _ _ (by simp; omega), World.cell?_alloc_lt _ _ _ hz]; exact c0
      have k1 : w1.cell? ⟨wr.heap.size, 0, none⟩ = some (.int .u8 kx) := by rw [(bcell hb1).1 _ _ (by simp), ← Hx0.out]; simp [go_sem]
      have k2 : w1.cell? ⟨wr.heap.size, 1, none⟩ = some (g 1) := by rw [(bcell hb1).1 _ _ (by simp)]; simp [go_sem]
      have k3 : w1.cell? ⟨wr.heap.size, 2, none⟩ = some (g 2) := by rw [(bcell hb1).1 _ _ (by simp)]; simp [go_sem]
      have Hblk1 := Lib.hid (blk_below (blk_alloc Hblk.out (.cells #[g 0, g 1, g 2] 24)) hb1 (by simp; omega))
      have Ho : Hid (Calls Tryd.prog 12 #[.agg #[.int .u8 kx, g 1, g 2]] w1 fun e w' => e = .returned (.bool t.args[q].owned) ∧ Below w1.heap.size w1 w') := by
        have := refOwned_any _ _ _ _ (Hg.out _ hb1w)
        rw [Hx0.out] at this
        exact this
      have hsum : Hid (okR b6 (b13 || b14) t.args[q] = (b13 || b14 || (if b6 then (kx == 1 || kx == 2 || kx == 3) else t.args[q].owned))) := Lib.hid (by unfold okR; rw [Hkx.out])
      generalize hs1 : t.args[q].standsR = s1 at *
      generalize hs2 : t.args[q].owned = s2 at *
      have Hs1 := Lib.hid hs1
      have Hs2 := Lib.hid hs2
      clear hb1 d0 d1 d2 o0 o1 o2 c0 c2 hs1 hs2
      cases s1 with
      | false =>
        go_wp2
        go_ret
        exact ⟨by rw [hv.out, all_false hlt (by rw [Hs1.out]; rfl)]; rfl, hb1w⟩
      | true =>
        cases b13 with
        | true =>
          go_wp2
          exact ⟨⟨q + 1, by omega, by go_num, Hall.out.succ hlt (by rw [Hs1.out, hsum.out]; simp []), hb1w, Hblk1.out⟩, by simp [intOf]; omega⟩
        | false =>
          cases b14 with
          | true =>
            go_wp2
            exact ⟨⟨q + 1, by omega, by go_num, Hall.out.succ hlt (by rw [Hs1.out, hsum.out]; simp []), hb1w, Hblk1.out⟩, by simp [intOf]; omega⟩
          | false =>
            cases b6 with
            | true =>
              by_cases i1 : kx = 1
              · subst i1
                go_wp2
                exact ⟨⟨q + 1, by omega, by go_num, Hall.out.succ hlt (by rw [Hs1.out, hsum.out]; simp []), hb1w, Hblk1.out⟩, by simp [intOf]; omega⟩
              · by_cases i2 : kx = 2
                · subst i2
                  go_wp2
                  exact ⟨⟨q + 1, by omega, by go_num, Hall.out.succ hlt (by rw [Hs1.out, hsum.out]; simp []), hb1w, Hblk1.out⟩, by simp [intOf]; omega⟩
                · by_cases i3 : kx = 3
                  · subst i3
                    go_wp2
                    exact ⟨⟨q + 1, by omega, by go_num, Hall.out.succ hlt (by rw [Hs1.out, hsum.out]; simp []), hb1w, Hblk1.out⟩, by simp [intOf]; omega⟩
                  · have j1 : (kx == 1) = false := by simpa using i1
                    have j2 : (kx == 2) = false := by simpa using i2
                    have j3 : (kx == 3) = false := by simpa using i3
                    have l1 : (kx != 1) = true := by simpa using i1
                    have l2 : (kx != 2) = true := by simpa using i2
                    have l3 : (kx != 3) = true := by simpa using i3
                    clear i1 i2 i3
                    go_wp2
                    go_ret
                    exact ⟨by rw [hv.out, all_false hlt (by rw [Hs1.out, hsum.out]; simp [j1, j2, j3])]; rfl, hb1w⟩
            | false =>
              cases s2 with
              | true =>
                go_wp2_with (go_at_call 12; refine Ho.out.mono ?_; rintro e w2 ⟨rfl, hb2⟩)
                exact ⟨⟨q + 1, by omega, by go_num, Hall.out.succ hlt (by rw [Hs1.out, hsum.out]; simp []), hb1w.trans (hb2.mono (by omega)), blk_below Hblk1.out hb2 (by omega)⟩, by simp [intOf]; omega⟩
              | false =>
                go_wp2_with (go_at_call 12; refine Ho.out.mono ?_; rintro e w2 ⟨rfl, hb2⟩)
                go_ret
                exact ⟨by rw [hv.out, all_false hlt (by rw [Hs1.out, hsum.out]; simp [])]; rfl, hb1w.trans (hb2.mono (by omega))⟩
    · go_wp2
      go_ret
      exact ⟨by rw [hv.out, Hall.out.all (by omega)]; rfl, hb⟩

end Go.Proofs.YtkgpkbclfncnfaaDoor
