/- 4 texts of this proof, one behind the other: RdN RdO RdP RdQ. The statement is proved in the claim's last text. -/
import Derived.Test.YtlnoacoanfhdcaaGreatDoorMRdj
import Derived.Test.YtlnoacoanfhdcaaGreatDoorMPt
namespace Go.Proofs.YtlnoacoanfhdcaaGreatDoor
open Go.RowKit
set_option linter.unusedVariables false
set_option linter.unusedSimpArgs false
/-- statements of a block, with what is known of each -/
def SbL (l : List Tok) (b : List St) : Prop := ∀ s ∈ b, (∃ d, s.whole d = true) ∧ Sb l s
section
variable {l : List Tok} {s : St} {n : Nat} {r : List ByteArray} {s0 : RS}
theorem st_scope (hF : StF s) (h1 : s.op = 9) (hB : SbL l s.body) (hn : 11 * s.tk.length + 20 ≤ n) (h0 : AtR l s0 (s.tk ++ r)) : ∃ st s1, One l n s0 st s1 ∧ AtR l s1 r ∧ s1.full = s0.full ∧ keySt st = keySt s := by
  have he := no_expr (by rw [h1]; rfl) hF
  have htk : s.tk = (⟨#[115, 99, 111, 112, 101]⟩ : ByteArray) :: braceTk (s.body.flatMap St.tk) := by
    rw [stTk_eq, he]
    unfold stTk1 headTk restTk
    rw [if_neg (by omega), if_neg (by omega), if_neg (by omega), if_neg (by omega), if_neg (by omega), if_neg (by omega), if_neg (by omega), if_neg (by omega), if_pos h1, if_neg (by omega), if_pos (by omega), hF.e0 (by rw [h1]; rfl)]
    simp
  rw [htk] at h0 hn
  simp only [List.length_cons] at hn
  have h0 : AtR l s0 ((⟨#[115, 99, 111, 112, 101]⟩ : ByteArray) :: (braceTk (s.body.flatMap St.tk) ++ r)) := h0
  obtain ⟨b, s1, e1, e2, e3, e4⟩ := block_rd hB (n := n) (by omega) r s0.nx h0.next
  have hq : wordQ l n (strongQ l n 6) (innerQ l n []) (⟨#[115, 99, 111, 112, 101]⟩ : ByteArray) s0.nx = some (some (st0 9 emS emS [] b [], s1)) := by
    have h2 : wordQ l n (strongQ l n 6) (innerQ l n []) (⟨#[115, 99, 111, 112, 101]⟩ : ByteArray) s0.nx = some (scopeQ l (innerQ l n []) s0.nx) := by kernel_rfl
    rw [h2]
    unfold scopeQ
    rw [e1]; rfl
  obtain ⟨pos, hp⟩ := step_word h0 hq
  refine ⟨_, s1, .inl hp, e2, e3, ?_⟩
  rw [key_at, key_st, key_sof h1 (nm_none (by omega) (by omega) hF) (sd_none (by omega) (by omega) hF) (no_names (by rw [h1]; rfl) hF) (hF.ty0 (by rw [h1]; rfl)) (int0 (by omega) hF) (hF.pl0 (by rw [h1]; rfl)), he, hF.e0 (by rw [h1]; rfl), hF.a0 (by rw [h1]; rfl), e4]
theorem st_block (hF : StF s) (h1 : s.op = 13) (hB : SbL l s.body) (hn : 11 * s.tk.length + 20 ≤ n) (h0 : AtR l s0 (s.tk ++ r)) : ∃ st s1, One l n s0 st s1 ∧ AtR l s1 r ∧ s1.full = s0.full ∧ keySt st = keySt s := by
  have he := no_expr (by rw [h1]; rfl) hF
  have htk : s.tk = (⟨#[123]⟩ : ByteArray) :: (s.body.flatMap St.tk ++ [(⟨#[125]⟩ : ByteArray)]) := by
    rw [stTk_eq, he]
    unfold stTk1 headTk restTk
    rw [if_neg (by omega), if_neg (by omega), if_neg (by omega), if_neg (by omega), if_neg (by omega), if_neg (by omega), if_neg (by omega), if_neg (by omega), if_neg (by omega), if_neg (by omega), if_neg (by omega), if_neg (by omega), if_pos (by omega), hF.e0 (by rw [h1]; rfl)]
    simp [braceTk]
  rw [htk] at h0 hn
  simp only [List.length_cons, List.length_append, List.length_nil] at hn
  have h0 : AtR l s0 ((⟨#[123]⟩ : ByteArray) :: (s.body.flatMap St.tk ++ (⟨#[125]⟩ : ByteArray) :: r)) := by
    have := h0
    simpa [List.append_assoc] using this
  obtain ⟨b, s1, e1, e2, e3, e4⟩ := inner_rd s.body hB n (by omega) [] r s0.nx h0.next
  have hq : wordQ l n (strongQ l n 6) (innerQ l n []) (⟨#[123]⟩ : ByteArray) s0.nx = some (some (st0 13 emS emS [] b [], s1)) := by
    have h2 : wordQ l n (strongQ l n 6) (innerQ l n []) (⟨#[123]⟩ : ByteArray) s0.nx = some (plainQ (innerQ l n []) s0.nx) := by kernel_rfl
    rw [h2]
    unfold plainQ
    rw [e1]; rfl
  obtain ⟨pos, hp⟩ := step_word h0 hq
  refine ⟨_, s1, .inl hp, e2, e3, ?_⟩
  rw [key_at, key_st, key_sof h1 (nm_none (by omega) (by omega) hF) (sd_none (by omega) (by omega) hF) (no_names (by rw [h1]; rfl) hF) (hF.ty0 (by rw [h1]; rfl)) (int0 (by omega) hF) (hF.pl0 (by rw [h1]; rfl)), he, hF.e0 (by rw [h1]; rfl), hF.a0 (by rw [h1]; rfl), e4]
theorem st_while (hF : StF s) (h1 : s.op = 7) (hE : ∀ e ∈ s.exprs, lentOp e.op = false → Eb l e) (hB : SbL l s.body) (hn : 11 * s.tk.length + 20 ≤ n) (h0 : AtR l s0 (s.tk ++ r)) : ∃ st s1, One l n s0 st s1 ∧ AtR l s1 r ∧ s1.full = s0.full ∧ keySt st = keySt s := by
  obtain ⟨e, he⟩ := one_expr (by rw [h1]; rfl) hF
  have hem : e ∈ s.exprs := by rw [he]; simp
  have hle : lentOp e.op = false := by
    rcases (hF.es e hem).1 with h | h
    · rw [h1] at h; cases h
    · exact h
  have htk : s.tk = (⟨#[119, 104, 105, 108, 101]⟩ : ByteArray) :: (e.tk ++ braceTk (s.body.flatMap St.tk)) := by
    rw [stTk_eq, he]
    unfold stTk1 headTk restTk
    rw [if_neg (by omega), if_neg (by omega), if_neg (by omega), if_neg (by omega), if_neg (by omega), if_neg (by omega), if_pos h1, if_neg (by omega), if_pos (by omega), hF.e0 (by rw [h1]; rfl)]
    simp
  rw [htk] at h0 hn
  simp only [List.length_cons, List.length_append] at hn
  have h0 : AtR l s0 ((⟨#[119, 104, 105, 108, 101]⟩ : ByteArray) :: (e.tk ++ (braceTk (s.body.flatMap St.tk) ++ r))) := by
    have := h0
    simpa [List.append_assoc] using this
  obtain ⟨y, s1, k1, k2, k3, k4⟩ := hE e hem hle n (by omega) (braceTk (s.body.flatMap St.tk) ++ r) (okR_end 0 (t := (⟨#[123]⟩ : ByteArray)) (by kernel_rfl)) s0.nx h0.next
  obtain ⟨b, s2, e1, e2, e3, e4⟩ := block_rd hB (n := n) (by omega) r s1 k2
  have hq : wordQ l n (strongQ l n 6) (innerQ l n []) (⟨#[119, 104, 105, 108, 101]⟩ : ByteArray) s0.nx = some (some (st0 7 emS emS [y] b [], s2)) := by
    have h2 : wordQ l n (strongQ l n 6) (innerQ l n []) (⟨#[119, 104, 105, 108, 101]⟩ : ByteArray) s0.nx = some (whileQ l (strongQ l n 6) (innerQ l n []) s0.nx) := by kernel_rfl
    rw [h2]
    unfold whileQ
    rw [k1]
    simp only
    rw [e1]; rfl
  obtain ⟨pos, hp⟩ := step_word h0 hq
  refine ⟨_, s2, .inl hp, e2, e3.trans k3, ?_⟩
  rw [key_at, key_st, key_sof h1 (nm_none (by omega) (by omega) hF) (sd_none (by omega) (by omega) hF) (no_names (by rw [h1]; rfl) hF) (hF.ty0 (by rw [h1]; rfl)) (int0 (by omega) hF) (hF.pl0 (by rw [h1]; rfl)), he, hF.e0 (by rw [h1]; rfl), hF.a0 (by rw [h1]; rfl), e4]
  show St.mk _ _ _ _ _ _ _ [keyE y] _ _ _ _ = _
  rw [k4]; rfl
theorem st_if (hF : StF s) (h1 : s.op = 6) (hE : ∀ e ∈ s.exprs, lentOp e.op = false → Eb l e) (hB : SbL l s.body) (hEl : SbL l s.els) (hn : 11 * s.tk.length + 20 ≤ n) (hr : ∀ t ts, r = t :: ts → sEq t (⟨#[101, 108, 115, 101]⟩ : ByteArray) = false) (h0 : AtR l s0 (s.tk ++ r)) : ∃ st s1, One l n s0 st s1 ∧ AtR l s1 r ∧ s1.full = s0.full ∧ keySt st = keySt s := by
  obtain ⟨e, he⟩ := one_expr (by rw [h1]; rfl) hF
  have hem : e ∈ s.exprs := by rw [he]; simp
  have hle : lentOp e.op = false := by
    rcases (hF.es e hem).1 with h | h
    · rw [h1] at h; cases h
    · exact h
  have htk : s.tk = (⟨#[105, 102]⟩ : ByteArray) :: (e.tk ++ (braceTk (s.body.flatMap St.tk) ++ (if s.els.length = 0 then [] else (⟨#[101, 108, 115, 101]⟩ : ByteArray) :: braceTk (s.els.flatMap St.tk)))) := by
    rw [stTk_eq, he]
    unfold stTk1 headTk restTk
    rw [if_neg (by omega), if_neg (by omega), if_neg (by omega), if_neg (by omega), if_neg (by omega), if_pos h1, if_neg (by omega), if_pos (by omega)]
    simp
  rw [htk] at h0 hn
  simp only [List.length_cons, List.length_append] at hn
  have h0 : AtR l s0 ((⟨#[105, 102]⟩ : ByteArray) :: (e.tk ++ (braceTk (s.body.flatMap St.tk) ++ ((if s.els.length = 0 then [] else (⟨#[101, 108, 115, 101]⟩ : ByteArray) :: braceTk (s.els.flatMap St.tk)) ++ r)))) := by
    have := h0
    simpa only [List.append_assoc, List.cons_append] using this
  obtain ⟨y, s1, k1, k2, k3, k4⟩ := hE e hem hle n (by omega) (braceTk (s.body.flatMap St.tk) ++ ((if s.els.length = 0 then [] else (⟨#[101, 108, 115, 101]⟩ : ByteArray) :: braceTk (s.els.flatMap St.tk)) ++ r)) (okR_end 0 (t := (⟨#[123]⟩ : ByteArray)) (by kernel_rfl)) s0.nx h0.next
  obtain ⟨b, s2, e1, e2, e3, e4⟩ := block_rd hB (n := n) (by omega) _ s1 k2
  have h2 : wordQ l n (strongQ l n 6) (innerQ l n []) (⟨#[105, 102]⟩ : ByteArray) s0.nx = some (branchQ l (strongQ l n 6) (innerQ l n []) s0.nx) := by kernel_rfl
  have hkey := key_sof h1 (nm_none (by omega) (by omega) hF) (sd_none (by omega) (by omega) hF) (no_names (by rw [h1]; rfl) hF) (hF.ty0 (by rw [h1]; rfl)) (int0 (by omega) hF) (hF.pl0 (by rw [h1]; rfl))
  rw [he, hF.a0 (by rw [h1]; rfl)] at hkey
  by_cases hz : s.els.length = 0
  · rw [if_pos hz] at e2
    have e2 : AtR l s2 r := e2
    have hi : isP l s2 (⟨#[101, 108, 115, 101]⟩ : ByteArray) 0 = false := by
      cases r with
      | nil => exact e2.is_nil _ _
      | cons t ts => rw [e2.is]; exact hr t ts rfl
    have hq : wordQ l n (strongQ l n 6) (innerQ l n []) (⟨#[105, 102]⟩ : ByteArray) s0.nx = some (some (st0 6 emS emS [y] b [], s2)) := by
      rw [h2]
      unfold branchQ
      rw [k1]
      simp only
      rw [e1]
      simp only
      rw [hi, if_neg (by simp)]
    obtain ⟨pos, hp⟩ := step_word h0 hq
    refine ⟨_, s2, .inl hp, e2, e3.trans k3, ?_⟩
    rw [key_at, key_st, hkey, e4, List.eq_nil_of_length_eq_zero hz]
    show St.mk _ _ _ _ _ _ _ [keyE y] _ _ _ _ = _
    rw [k4]; rfl
  · rw [if_neg hz] at e2 hn
    simp only [List.length_cons] at hn
    have e2 : AtR l s2 ((⟨#[101, 108, 115, 101]⟩ : ByteArray) :: (braceTk (s.els.flatMap St.tk) ++ r)) := e2
    obtain ⟨c, s3, f1, f2, f3, f4⟩ := block_rd hEl (n := n) (by omega) r s2.nx e2.next
    have hq : wordQ l n (strongQ l n 6) (innerQ l n []) (⟨#[105, 102]⟩ : ByteArray) s0.nx = some (some (st0 6 emS emS [y] b c, s3)) := by
      rw [h2]
      unfold branchQ
      rw [k1]
      simp only
      rw [e1]
      simp only
      rw [e2.is, sEq_self, if_pos rfl, e2.may, f1]; rfl
    obtain ⟨pos, hp⟩ := step_word h0 hq
    refine ⟨_, s3, .inl hp, f2, (f3.trans e3).trans k3, ?_⟩
    rw [key_at, key_st, hkey, e4, f4]
    show St.mk _ _ _ _ _ _ _ [keyE y] _ _ _ _ = _
    rw [k4]; rfl
theorem st_lock (hk : Kinds l) (hF : StF s) (h1 : s.op = 11) (hB : SbL l s.body) (hn : 11 * s.tk.length + 20 ≤ n) (h0 : AtR l s0 (s.tk ++ r)) : ∃ st s1, One l n s0 st s1 ∧ AtR l s1 r ∧ s1.full = s0.full ∧ keySt st = keySt s := by
  have he := no_expr (by rw [h1]; rfl) hF
  have htk : s.tk = (⟨#[108, 111, 99, 107]⟩ : ByteArray) :: (s.place.tk ++ ((⟨#[97, 115]⟩ : ByteArray) :: s.name :: braceTk (s.body.flatMap St.tk))) := by
    rw [stTk_eq, he]
    unfold stTk1 headTk restTk
    rw [if_neg (by omega), if_neg (by omega), if_neg (by omega), if_neg (by omega), if_neg (by omega), if_neg (by omega), if_neg (by omega), if_neg (by omega), if_neg (by omega), if_pos h1, if_neg (by omega), if_pos (by omega), hF.e0 (by rw [h1]; rfl)]
    simp
  rw [htk] at h0 hn
  simp only [List.length_cons, List.length_append] at hn
  have h0 : AtR l s0 ((⟨#[108, 111, 99, 107]⟩ : ByteArray) :: (s.place.tk ++ ((⟨#[97, 115]⟩ : ByteArray) :: s.name :: (braceTk (s.body.flatMap St.tk) ++ r)))) := by
    have := h0
    simpa [List.append_assoc] using this
  have hp := hF.pl (by rw [h1]; rfl)
  have hpl := place_len s.place
  have hkn := kind_name (nm_name (by omega) hF)
  obtain ⟨y, s1, k1, k2, k3, k4⟩ := place_rd hk hp (noDot_cons (t := (⟨#[97, 115]⟩ : ByteArray)) (ts := s.name :: (braceTk (s.body.flatMap St.tk) ++ r)) (by kernel_rfl)) (n := n) (by omega) s0.nx h0.next
  have k5 : y = s.place := k4
  subst k5
  obtain ⟨b, s2, e1, e2, e3, e4⟩ := block_rd hB (n := n) (by omega) r s1.nx.nx k2.next.next
  have hq : wordQ l n (strongQ l n 6) (innerQ l n []) (⟨#[108, 111, 99, 107]⟩ : ByteArray) s0.nx = some (some (.mk 11 s.name emS [] zeroT 0 s.place [] b [] [] 0, s2)) := by
    have h2 : wordQ l n (strongQ l n 6) (innerQ l n []) (⟨#[108, 111, 99, 107]⟩ : ByteArray) s0.nx = some (lockQ l n (innerQ l n []) s0.nx) := by kernel_rfl
    rw [h2]
    unfold lockQ
    rw [k1]
    simp only
    rw [k2.must, k2.next.takeP hk hkn, e1, k2.next.takeT hk hkn]; rfl
  obtain ⟨pos, hp⟩ := step_word h0 hq
  refine ⟨_, s2, .inl hp, e2, e3.trans k3, ?_⟩
  rw [key_at, key_st, key_sof h1 rfl (sd_none (by omega) (by omega) hF) (no_names (by rw [h1]; rfl) hF) (hF.ty0 (by rw [h1]; rfl)) (int0 (by omega) hF) rfl, he, hF.e0 (by rw [h1]; rfl), hF.a0 (by rw [h1]; rfl), e4]
theorem st_chan (hk : Kinds l) (hF : StF s) (h1 : s.op = 12) (hn : 11 * s.tk.length + 20 ≤ n) (h0 : AtR l s0 (s.tk ++ r)) : ∃ st s1, One l n s0 st s1 ∧ AtR l s1 r ∧ s1.full = s0.full ∧ keySt st = keySt s := by
  have he := no_expr (by rw [h1]; rfl) hF
  have hc := hF.cnt
  unfold countB at hc
  rw [if_pos h1] at hc
  simp only [Bool.and_eq_true, decide_eq_true_eq] at hc
  have htk : s.tk = (⟨#[99, 104, 97, 110]⟩ : ByteArray) :: (⟨#[60]⟩ : ByteArray) :: (s.type.tk ++ [(⟨#[62]⟩ : ByteArray), (⟨#[40]⟩ : ByteArray), itoaB s.int, (⟨#[41]⟩ : ByteArray), (⟨#[97, 115]⟩ : ByteArray), s.name, (⟨#[44]⟩ : ByteArray), s.second, (⟨#[59]⟩ : ByteArray)]) := by
    rw [stTk_eq, he]
    unfold stTk1 headTk restTk
    rw [if_neg (by omega), if_neg (by omega), if_neg (by omega), if_neg (by omega), if_neg (by omega), if_neg (by omega), if_neg (by omega), if_neg (by omega), if_neg (by omega), if_neg (by omega), if_pos h1, if_neg (by omega), if_neg (by omega)]
    simp
  rw [htk] at h0 hn
  simp only [List.length_cons, List.length_append] at hn
  have h0 : AtR l s0 ((⟨#[99, 104, 97, 110]⟩ : ByteArray) :: (⟨#[60]⟩ : ByteArray) :: (s.type.tk ++ ((⟨#[62]⟩ : ByteArray) :: (⟨#[40]⟩ : ByteArray) :: itoaB s.int :: (⟨#[41]⟩ : ByteArray) :: (⟨#[97, 115]⟩ : ByteArray) :: s.name :: (⟨#[44]⟩ : ByteArray) :: s.second :: (⟨#[59]⟩ : ByteArray) :: r))) := by
    have := h0
    simpa [List.append_assoc] using this
  obtain ⟨d, hd⟩ := hF.ty (by rw [h1]; rfl)
  obtain ⟨y, s1, k1, k2, k3, k4⟩ := ty_rd hk s.type d hd n (by omega) _ s0.nx.nx h0.next.next
  have k5 : y = s.type := k4
  subst k5
  have hkn := kind_name (nm_name (by omega) hF)
  have hsd : nameB s.second = true := by
    have := hF.sd
    unfold fmS at this
    rwa [if_neg (by omega), if_pos h1] at this
  have hks := kind_name hsd
  have hki := itoa_kind (n := s.int) (by omega)
  have k6 := k2.next.next.next
  have hfull : (⟨s1.nx.nx.at_ + 1, s1.nx.nx.bad, s1.nx.nx.full || (decide (s.int < 1) || decide (8 < s.int))⟩ : RS) = s1.nx.nx.nx := by
    rw [show decide (s.int < 1) = false from decide_eq_false (by omega), show decide (8 < s.int) = false from decide_eq_false (by omega)]
    simp
  have hq : wordQ l n (strongQ l n 6) (innerQ l n []) (⟨#[99, 104, 97, 110]⟩ : ByteArray) s0.nx = some (some (.mk 12 s.name s.second [] s.type s.int zeroPl [] [] [] [] 0, s1.nx.nx.nx.nx.nx.nx.nx.nx.nx)) := by
    have h2 : wordQ l n (strongQ l n 6) (innerQ l n []) (⟨#[99, 104, 97, 110]⟩ : ByteArray) s0.nx = some (chanQ l n s0.nx) := by kernel_rfl
    rw [h2]
    unfold chanQ
    rw [h0.next.must, k1]
    simp only
    rw [must2 k2, k2.next.next.hand hk, hki, if_pos (by decide), k2.next.next.takeT hk hki, itoa_num (by omega) (by omega)]
    simp only [Option.map_some]
    rw [hfull, must2 k6, k6.next.next.takeT hk hkn, k6.next.next.takeP hk hkn, k6.next.next.next.must, k6.next.next.next.next.takeT hk hks, k6.next.next.next.next.takeP hk hks, k6.next.next.next.next.next.must]
  obtain ⟨pos, hp⟩ := step_word h0 hq
  refine ⟨_, _, .inl hp, k6.next.next.next.next.next.next, k3, ?_⟩
  rw [key_at, key_st, key_sof h1 rfl rfl (no_names (by rw [h1]; rfl) hF) rfl rfl (hF.pl0 (by rw [h1]; rfl)), he, hF.b0 (by rw [h1]; rfl), hF.e0 (by rw [h1]; rfl), hF.a0 (by rw [h1]; rfl)]
end
end Go.Proofs.YtlnoacoanfhdcaaGreatDoor

namespace Go.Proofs.YtlnoacoanfhdcaaGreatDoor
open Go.RowKit
set_option linter.unusedVariables false
set_option linter.unusedSimpArgs false
section
variable {l : List Tok} {s : St} {n : Nat} {r : List ByteArray} {s0 : RS}
theorem st_spawn (hk : Kinds l) (hF : StF s) (h1 : s.op = 10) (hE : ∀ e ∈ s.exprs, lentOp e.op = false → Eb l e) (hB : SbL l s.body) (hn : 11 * s.tk.length + 20 ≤ n) (h0 : AtR l s0 (s.tk ++ r)) : ∃ st s1, One l n s0 st s1 ∧ AtR l s1 r ∧ s1.full = s0.full ∧ keySt st = keySt s := by
  have hlen : s.names.length = s.exprs.length := by
    have := hF.len
    rw [h1] at this
    have e1 : fmExprs 10 s.names.length = s.names.length := rfl
    omega
  have hn6 : s.names.length ≤ 6 := by have := hF.ns.2; rw [h1] at this; have e6 : fmNames 10 = 6 := rfl; omega
  have htk : s.tk = (⟨#[115, 112, 97, 119, 110]⟩ : ByteArray) :: (⟨#[40]⟩ : ByteArray) :: (commas ((s.names.zip s.exprs).map fun x => x.1 :: (⟨#[61]⟩ : ByteArray) :: x.2.tk) ++ ([(⟨#[41]⟩ : ByteArray)] ++ braceTk (s.body.flatMap St.tk))) := by
    rw [stTk_eq, ← given_zip _ _ hlen]
    unfold stTk1
    rw [if_pos h1]; rfl
  rw [htk] at h0 hn
  simp only [List.length_cons, List.length_append, List.length_nil] at hn
  have h0 : AtR l s0 ((⟨#[115, 112, 97, 119, 110]⟩ : ByteArray) :: (⟨#[40]⟩ : ByteArray) :: (commas ((s.names.zip s.exprs).map fun x => x.1 :: (⟨#[61]⟩ : ByteArray) :: x.2.tk) ++ [(⟨#[41]⟩ : ByteArray)] ++ (braceTk (s.body.flatMap St.tk) ++ r))) := by
    have := h0
    simpa [List.append_assoc] using this
  have hzl : (s.names.zip s.exprs).length = s.names.length := by rw [List.length_zip]; omega
  have hzm : ∀ x ∈ s.names.zip s.exprs, x.1 ∈ s.names ∧ x.2 ∈ s.exprs := fun x hx => List.of_mem_zip hx
  obtain ⟨ys, s1, e1, e2, e3, e4⟩ := list_rd (l := l) (f := handQ l (lentQ l n (strongQ l n 6))) (key := keyH) (e := (⟨#[41]⟩ : ByteArray)) (by kernel_rfl) (braceTk (s.body.flatMap St.tk) ++ r) ((s.names.zip s.exprs).map fun x => (x.1 :: (⟨#[61]⟩ : ByteArray) :: x.2.tk, (x.1, keyE x.2))) (fun x hx r0 hr0 => by
    obtain ⟨a, ha, rfl⟩ := List.mem_map.1 hx
    have hle := commas_mem (List.mem_map_of_mem (f := fun x : ByteArray × Ex => x.1 :: (⟨#[61]⟩ : ByteArray) :: x.2.tk) ha)
    simp only [List.length_cons] at hle
    refine hand_rd hk (hF.ns.1 _ (hzm a ha).1) (lent_rd hk (hF.es a.2 (hzm a ha).2).2 (hE a.2 (hzm a ha).2) (by omega) ?_)
    obtain ⟨t, rfl | rfl⟩ := hr0
    · exact okR_end 0 (by kernel_rfl)
    · exact okR_end 0 (by kernel_rfl)) (fun x hx => by
    obtain ⟨a, ha, rfl⟩ := List.mem_map.1 hx
    exact ⟨a.1, _, rfl, ne_kind (by rw [kind_name (hF.ns.1 _ (hzm a ha).1)]; decide)⟩) (by rw [List.length_map, hzl]; exact hn6) (n := n) (by rw [List.length_map, hzl]; omega) s0.nx.nx (by
    have := h0.next.next
    simpa [List.map_map, Function.comp_def] using this)
  have k1 : ys.map (·.1) = s.names := by
    have := congrArg (List.map Prod.fst) e4
    rw [List.map_map, List.map_map, List.map_map] at this
    rw [show (ys.map (·.1)) = ys.map (Prod.fst ∘ keyH) from rfl, this]
    simp [Function.comp_def, zip_map1 s.names s.exprs hlen]
  have k2 : (ys.map (·.2)).map keyE = s.exprs.map keyE := by
    have := congrArg (List.map Prod.snd) e4
    rw [List.map_map, List.map_map, List.map_map] at this
    rw [List.map_map, show ys.map (keyE ∘ fun x => x.2) = ys.map (Prod.snd ∘ keyH) from rfl, this, ← zip_map2 keyE s.names s.exprs hlen]
    rfl
  obtain ⟨b, s2, f1, f2, f3, f4⟩ := block_rd hB (n := n) (by omega) r s1 e2
  have hq : wordQ l n (strongQ l n 6) (innerQ l n []) (⟨#[115, 112, 97, 119, 110]⟩ : ByteArray) s0.nx = some (some (.mk 10 emS emS (ys.map (·.1)) zeroT 0 zeroPl (ys.map (·.2)) b [] [] 0, s2)) := by
    have h2 : wordQ l n (strongQ l n 6) (innerQ l n []) (⟨#[115, 112, 97, 119, 110]⟩ : ByteArray) s0.nx = some (spawnQ l n (strongQ l n 6) (innerQ l n []) s0.nx) := by kernel_rfl
    rw [h2]
    unfold spawnQ
    rw [h0.next.must, e1]
    simp only
    rw [f1]; rfl
  obtain ⟨pos, hp⟩ := step_word h0 hq
  refine ⟨_, s2, .inl hp, f2, f3.trans e3, ?_⟩
  rw [key_at, key_st, key_sof h1 (nm_none (by omega) (by omega) hF) (sd_none (by omega) (by omega) hF) rfl (hF.ty0 (by rw [h1]; rfl)) (int0 (by omega) hF) (hF.pl0 (by rw [h1]; rfl)), hF.e0 (by rw [h1]; rfl), hF.a0 (by rw [h1]; rfl), k1, k2, f4]
theorem arm_rd (hk : Kinds l) {a : Ar} (hv : typeB a.variant = true) (hnm : a.name = emS ∨ nameB a.name = true) (hB : SbL l a.body) (hn : 11 * a.tk.length ≤ n + 1) : Rd l (armQ l (innerQ l n [])) keyAr a.tk r (keyAr a) := fun s0 h0 => by
  have htk := arTk_eq a
  unfold armTk at htk
  have hkv := kind_type hv
  rw [htk] at h0 hn
  simp only [List.length_cons, List.length_append] at hn
  have hkey : ∀ b : List St, b.map keySt = a.body.map keySt → ∀ nm, nm = a.name → keyAr ⟨a.variant, nm, b⟩ = keyAr a := fun b hb nm hnm => by
    subst hnm
    show Ar.atm _ _ = Ar.atm _ _
    unfold Ar.atm
    rw [hb]
  rcases hnm with hnm | hnm
  · rw [hnm, show sEq emS emS = true from sEq_self _, if_pos rfl] at h0
    have h0 : AtR l s0 (a.variant :: (⟨#[61, 62]⟩ : ByteArray) :: (braceTk (a.body.flatMap St.tk) ++ r)) := h0
    obtain ⟨b, s1, e1, e2, e3, e4⟩ := block_rd hB (n := n) (by omega) r s0.nx.nx h0.next.next
    refine ⟨⟨a.variant, emS, b⟩, s1, ?_, e2, e3, hkey b e4 _ hnm.symm⟩
    unfold armQ
    rw [h0.takeT hk hkv, h0.takeP hk hkv]
    simp only
    rw [h0.next.is, show sEq (⟨#[61, 62]⟩ : ByteArray) (⟨#[40]⟩ : ByteArray) = false by kernel_rfl, if_neg (by simp), h0.next.must, e1]; rfl
  · have hne : sEq a.name emS = false := by
      cases hq : sEq a.name emS with
      | false => rfl
      | true => rw [emS_eq hq] at hnm; exact absurd hnm (by decide)
    have hkn := kind_name hnm
    rw [hne, if_neg (by simp)] at h0
    have h0 : AtR l s0 (a.variant :: (⟨#[40]⟩ : ByteArray) :: a.name :: (⟨#[41]⟩ : ByteArray) :: (⟨#[61, 62]⟩ : ByteArray) :: (braceTk (a.body.flatMap St.tk) ++ r)) := h0
    obtain ⟨b, s1, e1, e2, e3, e4⟩ := block_rd hB (n := n) (by omega) r s0.nx.nx.nx.nx.nx h0.next.next.next.next.next
    refine ⟨⟨a.variant, a.name, b⟩, s1, ?_, e2, e3, hkey b e4 _ rfl⟩
    unfold armQ
    rw [h0.takeT hk hkv, h0.takeP hk hkv]
    simp only
    rw [h0.next.is, sEq_self, if_pos rfl, h0.next.may, h0.next.next.takeP hk hkn, h0.next.next.takeT hk hkn, h0.next.next.next.must, h0.next.next.next.next.must, e1]; rfl
theorem arms_rd (hk : Kinds l) : ∀ (av : List Ar), (∀ a ∈ av, typeB a.variant = true ∧ (a.name = emS ∨ nameB a.name = true) ∧ SbL l a.body) → ∀ (m : Nat), av.length < m → 11 * (av.flatMap Ar.tk).length ≤ n + 1 → ∀ (acc : List Ar) (r : List ByteArray) (s0 : RS), AtR l s0 (av.flatMap Ar.tk ++ (⟨#[125]⟩ : ByteArray) :: r) → ∃ bs s1, armsQ l (innerQ l n []) m acc s0 = some (acc ++ bs, s1) ∧ AtR l s1 r ∧ s1.full = s0.full ∧ bs.map keyAr = av.map keyAr
  | [], _, m, hm, hn, acc, r, s0, h0 => by
    obtain ⟨m, rfl⟩ : ∃ k, m = k + 1 := ⟨m - 1, by omega⟩
    have h1 : AtR l s0 ((⟨#[125]⟩ : ByteArray) :: r) := h0
    refine ⟨[], s0.nx, ?_, h1.next, rfl, rfl⟩
    rw [armsQ, if_neg (by rw [h0.ok]; simp), h1.is, sEq_self, if_pos rfl, h1.may, List.append_nil]
  | a :: av, ha, m, hm, hn, acc, r, s0, h0 => by
    obtain ⟨m, rfl⟩ : ∃ k, m = k + 1 := ⟨m - 1, by omega⟩
    obtain ⟨h1, h2, h3⟩ := ha a (List.mem_cons_self ..)
    rw [List.flatMap_cons, List.length_append] at hn
    have h4 : AtR l s0 (a.tk ++ (av.flatMap Ar.tk ++ (⟨#[125]⟩ : ByteArray) :: r)) := by
      have := h0
      simpa [List.append_assoc] using this
    have h5 : ∃ ts, a.tk = a.variant :: ts := ⟨_, arTk_eq a⟩
    obtain ⟨ts, h5⟩ := h5
    have h6 : AtR l s0 (a.variant :: (ts ++ (av.flatMap Ar.tk ++ (⟨#[125]⟩ : ByteArray) :: r))) := by rw [h5] at h4; exact h4
    obtain ⟨b, s1, e1, e2, e3, e4⟩ := arm_rd hk h1 h2 h3 (n := n) (by omega) s0 h4
    obtain ⟨bs, s2, k1, k2, k3, k4⟩ := arms_rd hk av (fun x hx => ha x (List.mem_cons_of_mem _ hx)) m (by simp at hm; omega) (by omega) (acc ++ [b]) r s1 e2
    refine ⟨b :: bs, s2, ?_, k2, k3.trans e3, by rw [List.map_cons, List.map_cons, e4, k4]⟩
    rw [armsQ, if_neg (by rw [h0.ok]; simp), h6.is, ne_kind (by rw [kind_type h1]; decide), if_neg (by simp), e1]
    simp only
    rw [k1, List.append_assoc]; rfl
theorem st_match (hk : Kinds l) (hF : StF s) (h1 : s.op = 8) (hA : ∀ a ∈ s.arms, SbL l a.body) (hn : 11 * s.tk.length + 20 ≤ n) (h0 : AtR l s0 (s.tk ++ r)) : ∃ st s1, One l n s0 st s1 ∧ AtR l s1 r ∧ s1.full = s0.full ∧ keySt st = keySt s := by
  have he := no_expr (by rw [h1]; rfl) hF
  have htk : s.tk = (⟨#[109, 97, 116, 99, 104]⟩ : ByteArray) :: s.name :: (⟨#[58]⟩ : ByteArray) :: s.second :: (⟨#[123]⟩ : ByteArray) :: (s.arms.flatMap Ar.tk ++ [(⟨#[125]⟩ : ByteArray)]) := by
    rw [stTk_eq, he]
    unfold stTk1 headTk restTk
    rw [if_neg (by omega), if_neg (by omega), if_neg (by omega), if_neg (by omega), if_neg (by omega), if_neg (by omega), if_neg (by omega), if_pos h1, if_neg (by omega), if_neg (by omega)]
    simp
  rw [htk] at h0 hn
  simp only [List.length_cons, List.length_append, List.length_nil] at hn
  have h0 : AtR l s0 ((⟨#[109, 97, 116, 99, 104]⟩ : ByteArray) :: s.name :: (⟨#[58]⟩ : ByteArray) :: s.second :: (⟨#[123]⟩ : ByteArray) :: (s.arms.flatMap Ar.tk ++ (⟨#[125]⟩ : ByteArray) :: r)) := by
    have := h0
    simpa [List.append_assoc] using this
  have hkn := kind_name (nm_name (by omega) hF)
  have hsd : typeB s.second = true := by
    have := hF.sd
    unfold fmS at this
    rwa [if_pos h1] at this
  have hks := kind_type hsd
  obtain ⟨bs, s1, e1, e2, e3, e4⟩ := arms_rd hk s.arms (fun a ha => ⟨(hF.ar.2 a ha).1, (hF.ar.2 a ha).2.1, hA a ha⟩) n (by have := hF.ar.1; omega) (n := n) (by omega) [] r _ h0.next.next.next.next.next
  have hbl : bs.length = s.arms.length := by have := congrArg List.length e4; simpa using this
  have hfew : fewP s1 bs.length = s1 := by
    unfold fewP
    rw [show decide (6 < bs.length) = false from decide_eq_false (by have := hF.ar.1; omega), Bool.or_false]
  have hq : wordQ l n (strongQ l n 6) (innerQ l n []) (⟨#[109, 97, 116, 99, 104]⟩ : ByteArray) s0.nx = some (some (.mk 8 s.name s.second [] zeroT 0 zeroPl [] [] [] bs 0, s1)) := by
    have h2 : wordQ l n (strongQ l n 6) (innerQ l n []) (⟨#[109, 97, 116, 99, 104]⟩ : ByteArray) s0.nx = some (matchQ l n (innerQ l n []) s0.nx) := by kernel_rfl
    rw [h2]
    unfold matchQ
    rw [h0.next.takeP hk hkn, h0.next.next.must]
    simp only
    rw [h0.next.next.next.takeP hk hks, h0.next.next.next.next.must, e1, h0.next.takeT hk hkn, h0.next.next.next.takeT hk hks]
    simp only [Option.map_some, List.nil_append]
    rw [hfew]
  obtain ⟨pos, hp⟩ := step_word h0 hq
  refine ⟨_, s1, .inl hp, e2, e3, ?_⟩
  rw [key_at, key_st, key_sof h1 rfl rfl (no_names (by rw [h1]; rfl) hF) (hF.ty0 (by rw [h1]; rfl)) (int0 (by omega) hF) (hF.pl0 (by rw [h1]; rfl)), he, hF.b0 (by rw [h1]; rfl), hF.e0 (by rw [h1]; rfl), e4]
end
/-- every whole statement is read back -/
theorem st_back {l : List Tok} (hk : Kinds l) : ∀ s : St, (∃ d, s.whole d = true) → StRg s → Sb l s := by
  intro s
  induction s using St.ind with
  | h s i1 i2 i3 =>
  rintro ⟨d, hd⟩ hrg n hn r hr s0 h0
  have hF := st_facts hd
  have hop := hF.op
  obtain ⟨_, g1, g2, g3, g4⟩ := (stRg_iff s).1 hrg
  have hE : ∀ e ∈ s.exprs, lentOp e.op = false → Eb l e := fun e he hl => ex_back hk (hF.es e he).2 (g1 e he) hl
  have hB : SbL l s.body := fun x hx => ⟨hF.bw x hx, i1 x hx (hF.bw x hx) (g2 x hx)⟩
  have hEl : SbL l s.els := fun x hx => ⟨hF.ew x hx, i2 x hx (hF.ew x hx) (g3 x hx)⟩
  have hA : ∀ a ∈ s.arms, SbL l a.body := fun a ha x hx => ⟨(hF.ar.2 a ha).2.2 x hx, i3 a ha x hx ((hF.ar.2 a ha).2.2 x hx) (g4 a ha x hx)⟩
  have hall : s.op = 1 ∨ s.op = 2 ∨ s.op = 3 ∨ s.op = 4 ∨ s.op = 5 ∨ s.op = 6 ∨ s.op = 7 ∨ s.op = 8 ∨ s.op = 9 ∨ s.op = 10 ∨ s.op = 11 ∨ s.op = 12 ∨ s.op = 13 := by omega
  rcases hall with h | h | h | h | h | h | h | h | h | h | h | h | h
  · exact st_let hk hF h hE hn h0
  · exact st_take hk hF h hE hn h0
  · exact st_assign hk hF h hE hn h0
  · exact st_do hk hF h hE hn h0
  · exact st_drop hk hF h h0
  · exact st_if hF h hE hB hEl hn hr h0
  · exact st_while hF h hE hB hn h0
  · exact st_match hk hF h hA hn h0
  · exact st_scope hF h hB hn h0
  · exact st_spawn hk hF h hE hB hn h0
  · exact st_lock hk hF h hB hn h0
  · exact st_chan hk hF h hn h0
  · exact st_block hF h hB hn h0
end Go.Proofs.YtlnoacoanfhdcaaGreatDoor

namespace Go.Proofs.YtlnoacoanfhdcaaGreatDoor
open Go.RowKit
set_option linter.unusedVariables false
set_option linter.unusedSimpArgs false
abbrev keyI : It → It := It.atm fun _ => 0
/-- no statement begins where an expression does -/
theorem expr_step {l : List Tok} (hk : Kinds l) {e : Ex} (hw : ∃ d, e.whole d = true) {n : Nat} (hn : 11 * e.tk.length + 20 ≤ n) {q : List ByteArray} (hq : ∀ a b, q = a :: b → sEq a (⟨#[61]⟩ : ByteArray) = false ∧ sEq a (⟨#[46]⟩ : ByteArray) = false) {s0 : RS} (h0 : AtR l s0 (e.tk ++ q)) : stepQ l n (strongQ l n 6) (innerQ l n []) s0 = some (none, s0) := by
  obtain ⟨t, ts, ht, hh⟩ := ex_head e hw
  have h00 : AtR l s0 (t :: (ts ++ q)) := by rw [ht] at h0; exact h0
  obtain ⟨x, hx, hxt, hxm⟩ := h00.get
  rw [step_none h00 (no_start hh.sort)]
  unfold assignQ
  rw [if_neg (by rw [h0.ok]; simp), hx]
  simp only
  rw [hk x hxm, hxt]
  by_cases hkt : kindT t = 2
  · rcases ex_place e hw t ts ht hkt with ⟨us, h5⟩ | ⟨pl, rest, q1, q2, q3, q4⟩
    · rw [h5] at h00
      have h01 : AtR l s0 (t :: (⟨#[40]⟩ : ByteArray) :: (us ++ q)) := h00
      rw [if_neg (fun hc => by rw [h01.is1, sEq_self] at hc; exact absurd hc.2 (by simp))]
    · by_cases hi : isP l s0 (⟨#[40]⟩ : ByteArray) 1 = false
      · rw [if_pos ⟨hkt, hi⟩]
        have hlen := congrArg List.length q2
        rw [List.length_append] at hlen
        have hpl := place_len pl
        rw [q2] at h0
        have h01 : AtR l s0 (pl.tk ++ (rest ++ q)) := by
          have := h0
          simpa [List.append_assoc] using this
        have hhead : ∀ a b, (rest ++ q) = a :: b → sEq a (⟨#[61]⟩ : ByteArray) = false ∧ sEq a (⟨#[46]⟩ : ByteArray) = false := fun a b he => by
          cases rest with
          | nil => exact hq a b he
          | cons c cs => cases he; exact ⟨(q4 _ _ rfl).1, (q4 _ _ rfl).2.1⟩
        obtain ⟨y, s1, e1, e2, e3, e4⟩ := place_rd hk q1 (fun a b he => (hhead a b he).2) (n := n) (by omega) s0 h01
        rw [e1]
        simp only
        have hne : isP l s1 (⟨#[61]⟩ : ByteArray) 0 = false := by
          generalize (rest ++ q) = q at *
          cases q with
          | nil => exact e2.is_nil _ _
          | cons a b => rw [e2.is]; exact (hhead a b rfl).1
        rw [if_neg (fun hc => by rw [hne] at hc; exact absurd hc.2 (by simp))]
      · rw [if_neg (fun hc => hi hc.2)]
  · rw [if_neg (fun hc => hkt hc.1)]
theorem body_rd {l : List Tok} (hk : Kinds l) {e : Ex} (hw : ∃ d, e.whole d = true) (hrg : ExRg e) (hl : lentOp e.op = false) : ∀ (b : List St), SbL l b → ∀ (n : Nat), 11 * (b.flatMap St.tk).length + (11 * e.tk.length + 21) ≤ n → ∀ (acc : List St) (r : List ByteArray) (s0 : RS), AtR l s0 (b.flatMap St.tk ++ (e.tk ++ (⟨#[125]⟩ : ByteArray) :: r)) → ∃ b' e' s1, bodyQ l n acc s0 = some ((acc ++ b', e'), s1) ∧ AtR l s1 ((⟨#[125]⟩ : ByteArray) :: r) ∧ s1.full = s0.full ∧ b'.map keySt = b.map keySt ∧ keyE e' = keyE e
  | [], _, n, hn, acc, r, s0, h0 => by
    obtain ⟨m, rfl⟩ : ∃ m, n = m + 1 := ⟨n - 1, by omega⟩
    have h1 : AtR l s0 (e.tk ++ (⟨#[125]⟩ : ByteArray) :: r) := h0
    simp only [List.flatMap_nil, List.length_nil] at hn
    have hst := expr_step hk hw (n := m) (by omega) (fun a b he => by cases he; exact ⟨by kernel_rfl, by kernel_rfl⟩) h1
    obtain ⟨y, s1, e1, e2, e3, e4⟩ := ex_back hk hw hrg hl m (by omega) ((⟨#[125]⟩ : ByteArray) :: r) (okR_end 0 (by kernel_rfl)) s0 h1
    refine ⟨[], y, s1, ?_, e2, e3, rfl, e4⟩
    rw [bodyQ, if_neg (by rw [h0.ok]; simp), hst]
    simp only
    rw [e1]
    simp only
    rw [e2.is, sEq_self, if_pos rfl, List.append_nil]
  | s :: b, hb, n, hn, acc, r, s0, h0 => by
    obtain ⟨m, rfl⟩ : ∃ m, n = m + 1 := ⟨n - 1, by omega⟩
    obtain ⟨⟨d, hd⟩, hs⟩ := hb s (List.mem_cons_self ..)
    obtain ⟨t, ts, ht, hh⟩ := st_head hd
    rw [List.flatMap_cons, List.length_append] at hn
    have hpos : 1 ≤ s.tk.length := by rw [ht]; simp
    have h1 : AtR l s0 (s.tk ++ (b.flatMap St.tk ++ (e.tk ++ (⟨#[125]⟩ : ByteArray) :: r))) := by
      have := h0
      simpa [List.append_assoc] using this
    have helse : ∀ t ts, (b.flatMap St.tk ++ (e.tk ++ (⟨#[125]⟩ : ByteArray) :: r)) = t :: ts → sEq t (⟨#[101, 108, 115, 101]⟩ : ByteArray) = false := fun t' ts' he => by
      cases b with
      | nil =>
        obtain ⟨t2, ts2, ht2, hh2⟩ := ex_head e hw
        rw [List.flatMap_nil, List.nil_append, ht2] at he
        cases he
        have : StHd t' := by
          rcases hh2.sort with h | h | h | h
          · exact .inl h
          · exact .inr (.inl h)
          · exact .inr (.inr (.inl h))
          · exact .inr (.inr (.inr (.inl h)))
        exact this.els
      | cons s2 b =>
        obtain ⟨⟨d2, hd2⟩, _⟩ := hb s2 (by simp)
        obtain ⟨t2, ts2, ht2, hh2⟩ := st_head hd2
        rw [List.flatMap_cons, ht2] at he
        cases he
        exact hh2.els
    obtain ⟨st, s1, e1, e2, e3, e4⟩ := hs m (by omega) _ helse s0 h1
    obtain ⟨b', e', s2, k1, k2, k3, k4, k5⟩ := body_rd hk hw hrg hl b (fun x hx => hb x (List.mem_cons_of_mem _ hx)) m (by omega) (acc ++ [st]) r s1 e2
    refine ⟨st :: b', e', s2, ?_, k2, k3.trans e3, by rw [List.map_cons, List.map_cons, e4, k4], k5⟩
    rw [body_one e1 h0.ok, k1, List.append_assoc]; rfl
theorem zeroEx_key {e : Ex} (h : zeroExB e = true) : keyE e = keyE zeroX := by
  unfold zeroExB at h
  simp only [Bool.and_eq_true, beq_iff_eq, decide_eq_true_eq] at h
  obtain ⟨h1, h2, h3, h4, ⟨h5, h6⟩, h7⟩ := h
  have hp : e.place = ⟨emS, []⟩ := noPl_eq (x := e.place) (by unfold noPlB; rw [h5, decide_eq_true h6]; rfl)
  rw [key_of h1 h2 (emS_eq h3) (emS_eq h4) hp, List.eq_nil_of_length_eq_zero h7]
  rfl
theorem commas_fi {f : Fi → List ByteArray} {fs : List Fi} {x : Fi} (h : x ∈ fs) : (f x).length ≤ (commas (fs.map f)).length := commas_mem (List.mem_map_of_mem (f := f) h)
theorem field_len (f : Fi) : (fieldTk f).length = f.type.tk.length + 2 := by
  unfold fieldTk
  rw [List.length_cons, List.length_cons]
/-- an item is read back -/
theorem item_rd {l : List Tok} (hk : Kinds l) {x : It} {d : Int} (hw : x.whole d = true) (hrg : x.kind = 3 → ItRg x) {n : Nat} (hn : 11 * x.tk.length + 20 ≤ n) (r : List ByteArray) : Rd l (itemQ l n) keyI x.tk r (keyI x) := fun s hs => by
  unfold It.whole at hw
  unfold It.tk at hs hn
  by_cases h12 : x.kind = 1 ∨ x.kind = 2
  · rw [if_pos h12] at hw
    simp only [Bool.and_eq_true, decide_eq_true_eq] at hw
    obtain ⟨⟨hz, hb, hr, hnm⟩, hf⟩ := hw
    obtain ⟨hf1, hf2⟩ := allUp_pair hf
    have hzr : x.result = zeroT := by
      unfold zeroTyB at hz
      simp only [Bool.and_eq_true, beq_iff_eq, decide_eq_true_eq] at hz
      exact ty_eta hz.1 (emS_eq hz.2.1) (List.eq_nil_of_length_eq_zero hz.2.2)
    have hkn := kind_type hnm
    have hkey : ∀ (k : Int) (pos : Int), x.kind = k → keyI ⟨k, x.name, x.fields, zeroT, [], zeroX, pos⟩ = keyI x := fun k pos e => by
      subst e
      show It.atm _ _ = It.atm _ _
      unfold It.atm
      rw [show Ex.atm (fun _ => 0) x.ret = Ex.atm (fun _ => 0) zeroX from zeroEx_key hr, ← hzr, List.eq_nil_of_length_eq_zero hb]
    by_cases h1 : x.kind = 1
    · rw [if_pos h1] at hs hn
      simp only [List.length_cons, List.length_append, List.length_nil] at hn
      have h0 : AtR l s ((⟨#[115, 116, 114, 117, 99, 116]⟩ : ByteArray) :: x.name :: (⟨#[123]⟩ : ByteArray) :: (commas (x.fields.map fieldTk) ++ [(⟨#[125]⟩ : ByteArray)] ++ r)) := hs
      obtain ⟨ys, s1, e1, e2, e3, e4⟩ := list_rd (l := l) (f := fieldP l n) (key := id) (e := (⟨#[125]⟩ : ByteArray)) (by kernel_rfl) r (x.fields.map fun f => (fieldTk f, f)) (fun y hy r0 hr0 => by
        obtain ⟨f, hfm, rfl⟩ := List.mem_map.1 hy
        have h6 := hf2 f hfm
        unfold fieldB at h6
        rw [h1, if_neg (by decide)] at h6
        simp only [Bool.and_eq_true, Bool.or_eq_true] at h6
        have h7 : f.type.whole (d - 1) = true := by
          rcases h6.2 with h8 | h8
          · exact absurd h8.1 (by decide)
          · exact h8
        have hlen := commas_fi (f := fieldTk) hfm
        exact field_rd hk h6.1 h7 (by have e9 := field_len f; omega) r0) (fun y hy => by
        obtain ⟨f, hfm, rfl⟩ := List.mem_map.1 hy
        have h6 := hf2 f hfm
        unfold fieldB at h6
        rw [h1, if_neg (by decide)] at h6
        simp only [Bool.and_eq_true] at h6
        exact ⟨f.name, _, rfl, ne_kind (by rw [kind_name h6.1]; decide)⟩) (by simp only [List.length_map]; omega) (n := n) (by simp; omega) s.nx.nx.nx (by
        have := h0.next.next.next
        simpa [List.map_map, Function.comp_def] using this)
      have e5 : ys = x.fields := by
        have := e4
        simpa [List.map_map, Function.comp_def] using this
      subst e5
      refine ⟨⟨1, x.name, x.fields, zeroT, [], zeroX, placeP l s⟩, s1, ?_, e2, e3, hkey 1 _ h1⟩
      unfold itemQ
      rw [h0.is, sEq_self, if_pos rfl]
      unfold itemP
      rw [h0.is, sEq_self, if_pos rfl]
      simp only
      rw [h0.may, h0.next.takeP hk hkn, h0.next.next.must, e1, h0.next.takeT hk hkn]; rfl
    · have h2 : x.kind = 2 := by omega
      rw [if_neg h1, if_pos h2] at hs hn
      simp only [List.length_cons, List.length_append, List.length_nil] at hn
      have h0 : AtR l s ((⟨#[101, 110, 117, 109]⟩ : ByteArray) :: x.name :: (⟨#[123]⟩ : ByteArray) :: (commas (x.fields.map varTk) ++ [(⟨#[125]⟩ : ByteArray)] ++ r)) := hs
      have hfb : ∀ f ∈ x.fields, typeB f.name = true ∧ (zeroTyB f.type = true ∨ ∃ d, f.type.whole d = true) := fun f hfm => by
        have h6 := hf2 f hfm
        unfold fieldB at h6
        rw [h2, if_pos rfl] at h6
        simp only [Bool.and_eq_true, Bool.or_eq_true] at h6
        exact ⟨h6.1, h6.2.elim (fun h => .inl h.2) fun h => .inr ⟨_, h⟩⟩
      obtain ⟨ys, s1, e1, e2, e3, e4⟩ := list_rd (l := l) (f := variantP l n) (key := id) (e := (⟨#[125]⟩ : ByteArray)) (by kernel_rfl) r (x.fields.map fun f => (varTk f, f)) (fun y hy r0 hr0 => by
        obtain ⟨f, hfm, rfl⟩ := List.mem_map.1 hy
        have hlen := commas_fi (f := varTk) hfm
        refine variant_rd hk (hfb f hfm).1 (hfb f hfm).2 ?_ ?_
        · have e9 : (varTk f).length = 1 + (if f.type.kind = 0 then [] else (⟨#[40]⟩ : ByteArray) :: (f.type.tk ++ [(⟨#[41]⟩ : ByteArray)])).length := by
            unfold varTk
            rw [List.length_cons]; omega
          rcases (hfb f hfm).2 with h8 | ⟨d', h8⟩
          · unfold zeroTyB at h8
            simp only [Bool.and_eq_true, beq_iff_eq, decide_eq_true_eq] at h8
            rw [ty_eta h8.1 (emS_eq h8.2.1) (List.eq_nil_of_length_eq_zero h8.2.2)]
            show (Ty.tk (.mk 0 emS [])).length ≤ n
            rw [tyTk_eq]
            show 1 ≤ n
            omega
          · have hk0 : f.type.kind ≠ 0 := fun h => by
              rw [whole_eq] at h8
              simp only [Bool.and_eq_true, decide_eq_true_eq] at h8
              omega
            rw [if_neg hk0] at e9
            simp only [List.length_cons, List.length_append, List.length_nil] at e9
            omega
        · obtain ⟨t, rfl | rfl⟩ := hr0
          · intro a b e; cases e; kernel_rfl
          · intro a b e; cases e; kernel_rfl) (fun y hy => by
        obtain ⟨f, hfm, rfl⟩ := List.mem_map.1 hy
        exact ⟨f.name, _, rfl, ne_kind (by rw [kind_type (hfb f hfm).1]; decide)⟩) (by simp only [List.length_map]; omega) (n := n) (by simp; omega) s.nx.nx.nx (by
        have := h0.next.next.next
        simpa [List.map_map, Function.comp_def] using this)
      have e5 : ys = x.fields := by
        have := e4
        simpa [List.map_map, Function.comp_def] using this
      subst e5
      refine ⟨⟨2, x.name, x.fields, zeroT, [], zeroX, placeP l s⟩, s1, ?_, e2, e3, hkey 2 _ h2⟩
      have hns : isP l s (⟨#[115, 116, 114, 117, 99, 116]⟩ : ByteArray) 0 = false := by rw [h0.is]; kernel_rfl
      unfold itemQ
      rw [hns, if_neg (by simp), h0.is, sEq_self, if_pos rfl]
      unfold itemP
      rw [hns, if_neg (by simp), h0.is, sEq_self, if_pos rfl]
      simp only
      rw [h0.may, h0.next.takeP hk hkn, h0.next.next.must, e1, h0.next.takeT hk hkn]; rfl
  · rw [if_neg h12] at hw
    by_cases h3 : x.kind = 3
    · rw [if_pos h3] at hw
      simp only [Bool.and_eq_true, Bool.not_eq_true'] at hw
      obtain ⟨hnm, hf, hrw, hrl, hret, hbw⟩ := hw
      obtain ⟨hf1, hf2⟩ := allUp_pair hf
      obtain ⟨hrg1, hrg2⟩ := hrg h3
      rw [if_neg (by omega), if_neg (by omega)] at hs hn
      simp only [List.length_cons, List.length_append, List.length_nil] at hn
      have h0 : AtR l s ((⟨#[102, 110]⟩ : ByteArray) :: x.name :: (⟨#[40]⟩ : ByteArray) :: (commas (x.fields.map fieldTk) ++ [(⟨#[41]⟩ : ByteArray)] ++ ((⟨#[45, 62]⟩ : ByteArray) :: (x.result.tk ++ (⟨#[123]⟩ : ByteArray) :: (x.body.flatMap St.tk ++ (x.ret.tk ++ (⟨#[125]⟩ : ByteArray) :: r)))))) := by
        have := hs
        simpa [List.append_assoc] using this
      have hkn := kind_name hnm
      have hfb : ∀ f ∈ x.fields, nameB f.name = true ∧ f.type.whole (d - 1) = true := fun f hfm => by
        have h6 := hf2 f hfm
        unfold fieldB at h6
        rw [if_neg (by decide)] at h6
        simp only [Bool.and_eq_true, Bool.or_eq_true] at h6
        refine ⟨h6.1, ?_⟩
        rcases h6.2 with h8 | h8
        · exact absurd h8.1 (by decide)
        · exact h8
      obtain ⟨ys, s1, e1, e2, e3, e4⟩ := list_rd (l := l) (f := fieldP l n) (key := id) (e := (⟨#[41]⟩ : ByteArray)) (by kernel_rfl) ((⟨#[45, 62]⟩ : ByteArray) :: (x.result.tk ++ (⟨#[123]⟩ : ByteArray) :: (x.body.flatMap St.tk ++ (x.ret.tk ++ (⟨#[125]⟩ : ByteArray) :: r)))) (x.fields.map fun f => (fieldTk f, f)) (fun y hy r0 hr0 => by
        obtain ⟨f, hfm, rfl⟩ := List.mem_map.1 hy
        have hlen := commas_fi (f := fieldTk) hfm
        exact field_rd hk (hfb f hfm).1 (hfb f hfm).2 (by have e9 := field_len f; omega) r0) (fun y hy => by
        obtain ⟨f, hfm, rfl⟩ := List.mem_map.1 hy
        exact ⟨f.name, _, rfl, ne_kind (by rw [kind_name (hfb f hfm).1]; decide)⟩) (by simp only [List.length_map]; omega) (n := n) (by simp; omega) s.nx.nx.nx (by
        have := h0.next.next.next
        simpa [List.map_map, Function.comp_def] using this)
      have e5 : ys = x.fields := by
        have := e4
        simpa [List.map_map, Function.comp_def] using this
      subst e5
      obtain ⟨y, s2, k1, k2, k3, k4⟩ := ty_rd hk x.result (d - 1) hrw n (by omega) _ s1.nx e2.next
      have k5 : y = x.result := k4
      subst k5
      have hB : SbL l x.body := fun y hy => ⟨⟨_, List.all_eq_true.1 hbw y hy⟩, st_back hk y ⟨_, List.all_eq_true.1 hbw y hy⟩ (hrg2 y hy)⟩
      obtain ⟨b', e', s3, g1, g2, g3, g4, g5⟩ := body_rd hk ⟨_, hret⟩ hrg1 hrl x.body hB n (by omega) [] r s2.nx k2.next
      refine ⟨⟨3, x.name, x.fields, x.result, b', e', placeP l s⟩, s3.nx, ?_, g2.next, (g3.trans k3).trans e3, ?_⟩
      · have hns : isP l s (⟨#[115, 116, 114, 117, 99, 116]⟩ : ByteArray) 0 = false := by rw [h0.is]; kernel_rfl
        have hne : isP l s (⟨#[101, 110, 117, 109]⟩ : ByteArray) 0 = false := by rw [h0.is]; kernel_rfl
        unfold itemQ
        rw [hns, if_neg (by simp), hne, if_neg (by simp), h0.must, h0.next.takeP hk hkn, h0.next.next.must, e1]
        simp only
        rw [e2.must, k1]
        simp only
        rw [k2.must, g1]
        simp only [List.nil_append]
        rw [h0.next.takeT hk hkn, g2.must]
      · show It.atm _ _ = It.atm _ _
        unfold It.atm
        rw [show b'.map (St.atm fun _ => 0) = x.body.map (St.atm fun _ => 0) from g4, show Ex.atm (fun _ => 0) e' = Ex.atm (fun _ => 0) x.ret from g5, h3]
    · rw [if_neg h3] at hw; cases hw
theorem item_pos {x : It} : 1 ≤ x.tk.length := by
  unfold It.tk
  split
  · simp
  · split <;> simp
/-- a program is read back -/
theorem items_rd {l : List Tok} (hk : Kinds l) {n : Nat} : ∀ (p : List It), (∀ x ∈ p, (∃ d, x.whole d = true) ∧ (x.kind = 3 → ItRg x)) → 11 * (p.flatMap It.tk).length + 20 ≤ n → ∀ (f : Nat), p.length < f → ∀ (acc : List It) (s : RS), AtR l s (p.flatMap It.tk) → ∃ p' s1, itemsQ l n f acc s = some (acc ++ p', s1) ∧ s1.bad = false ∧ s1.full = s.full ∧ p'.map keyI = p.map keyI
  | [], _, hn, f, hf, acc, s, hs => by
    obtain ⟨f, rfl⟩ : ∃ k, f = k + 1 := ⟨f - 1, by omega⟩
    have h0 : AtR l s [] := hs
    refine ⟨[], s, ?_, h0.ok, rfl, rfl⟩
    have hlen : l.length ≤ s.at_ := by
      have := h0.gone 0
      simpa using this
    rw [itemsQ, if_neg (by omega), List.append_nil]
  | x :: p, hp, hn, f, hf, acc, s, hs => by
    obtain ⟨f, rfl⟩ : ∃ k, f = k + 1 := ⟨f - 1, by omega⟩
    obtain ⟨⟨d, hd⟩, hrg⟩ := hp x (List.mem_cons_self ..)
    rw [List.flatMap_cons] at hs
    rw [List.flatMap_cons, List.length_append] at hn
    obtain ⟨y, s1, e1, e2, e3, e4⟩ := item_rd hk hd hrg (n := n) (by omega) (p.flatMap It.tk) s hs
    obtain ⟨p', s2, k1, k2, k3, k4⟩ := items_rd hk (n := n) p (fun z hz => hp z (List.mem_cons_of_mem _ hz)) (by omega) f (by simp at hf; omega) (acc ++ [y]) s1 e2
    refine ⟨y :: p', s2, ?_, k2, k3.trans e3, by rw [List.map_cons, List.map_cons, e4, k4]⟩
    have hlt : s.at_ < l.length := by
      rcases Nat.lt_or_ge s.at_ l.length with h | h
      · exact h
      · exfalso
        have h1 := congrArg List.length hs.tx
        rw [List.drop_eq_nil_of_le h] at h1
        have := item_pos (x := x)
        simp at h1
        omega
    rw [itemsQ, if_pos ⟨hlt, hs.ok⟩, e1]
    simp only
    rw [k1, List.append_assoc]; rfl
/-- programs with the same tokens are the same, but for places -/
theorem tokens_one {p q : List It} (hp : ∀ x ∈ p, (∃ d, x.whole d = true) ∧ (x.kind = 3 → ItRg x)) (hq : ∀ x ∈ q, (∃ d, x.whole d = true) ∧ (x.kind = 3 → ItRg x)) (h : p.flatMap It.tk = q.flatMap It.tk) : p.map keyI = q.map keyI := by
  have hl : ∃ l : List Tok, l.map Tok.text = p.flatMap It.tk ∧ Kinds l := by
    refine ⟨(p.flatMap It.tk).map fun t => ⟨kindT t, t, 0⟩, by rw [List.map_map]; exact List.map_id _, fun x hx => ?_⟩
    obtain ⟨t, _, rfl⟩ := List.mem_map.1 hx
    rfl
  obtain ⟨l, h1, hk⟩ := hl
  have a1 : AtR l ⟨0, false, false⟩ (p.flatMap It.tk) := ⟨rfl, by rw [List.drop_zero]; exact h1⟩
  have a2 : AtR l ⟨0, false, false⟩ (q.flatMap It.tk) := ⟨rfl, by rw [List.drop_zero, ← h]; exact h1⟩
  obtain ⟨p', s1, e1, _, _, e4⟩ := items_rd hk (n := 11 * (p.flatMap It.tk).length + 20) p hp (Nat.le_refl _) (p.length + q.length + 1) (by omega) [] _ a1
  obtain ⟨q', s2, k1, _, _, k4⟩ := items_rd hk (n := 11 * (p.flatMap It.tk).length + 20) q hq (by rw [h]; exact Nat.le_refl _) (p.length + q.length + 1) (by omega) [] _ a2
  rw [e1] at k1
  have : p' = q' := by
    have := Option.some.inj k1
    simpa using congrArg Prod.fst this
  rw [← e4, ← k4, this]
end Go.Proofs.YtlnoacoanfhdcaaGreatDoor

namespace Go.Proofs.YtlnoacoanfhdcaaGreatDoor
open Go.RowKit
set_option linter.unusedVariables false
set_option linter.unusedSimpArgs false
theorem toks_texts : ∀ (l : List (ByteArray × UInt8)) (a : Nat) (ts : List Tok), ToksP a l ts → ts.map Tok.text = l.map Prod.fst
  | [], a, ts, h => by
    unfold ToksP at h
    rw [h]; rfl
  | (t, c) :: l, a, ts, h => by
    obtain ⟨x, r, e, h1, h2, h3⟩ := h
    rw [e, List.map_cons, toks_texts l _ r h3, h1]; rfl
theorem ends_fst : ∀ l : List ByteArray, (endsP l).map Prod.fst = l
  | [] => rfl
  | [t] => rfl
  | t :: u :: l => by
    have := ends_fst (u :: l)
    unfold endsP
    rw [List.map_cons, this]
theorem prog_fst (p : List It) : (progP p).map Prod.fst = p.flatMap It.tk := by
  unfold progP
  induction p with
  | nil => rfl
  | cons x p ih => rw [List.flatMap_cons, List.map_append, ih, ends_fst, List.flatMap_cons]
theorem texts_tokens {p q : List It} (hp : prWhole p = true) (hq : prWhole q = true) (rp : ∀ x ∈ p, ItRg x) (rq : ∀ x ∈ q, ItRg x) (h : progB p = progB q) : p.flatMap It.tk = q.flatMap It.tk := by
  obtain ⟨t1, e1, k1⟩ := lex_pairs (progP p) 0 (progP q).length (prog_pairs hp rp)
  obtain ⟨t2, e2, k2⟩ := lex_pairs (progP q) 0 (progP p).length (prog_pairs hq rq)
  rw [bytesP_prog p fun x _ => it_tk_ne x, h] at e1
  rw [bytesP_prog q fun x _ => it_tk_ne x, Nat.add_comm (progP p).length] at e2
  rw [e1] at e2
  have e3 := Option.some.inj e2
  have h1 := toks_texts _ _ _ k1
  have h2 := toks_texts _ _ _ k2
  rw [e3, h2, prog_fst, prog_fst] at h1
  exact h1.symm
/-! ### Places change no text -/
theorem ex_tk_atm (g : Int → Int) : ∀ e : Ex, (e.atm g).tk = e.tk := by
  intro e
  induction e using Ex.ind with
  | h e ih =>
  rw [exTk_eq, exTk_eq e]
  have h1 : (e.atm g).op = e.op ∧ (e.atm g).int = e.int ∧ (e.atm g).name = e.name ∧ (e.atm g).second = e.second ∧ (e.atm g).place = e.place ∧ (e.atm g).args = e.args.map (Ex.atm g) := by
    rw [exAtm]; exact ⟨rfl, rfl, rfl, rfl, rfl, rfl⟩
  obtain ⟨k1, k2, k3, k4, k5, k6⟩ := h1
  rw [k1, k2, k3, k4, k5, k6, List.map_map]
  congr 1
  refine List.map_congr_left fun a ha => ?_
  have : (a.atm g).op = a.op := by rw [exAtm]; rfl
  show ((a.atm g).op, (a.atm g).tk) = (a.op, a.tk)
  rw [this, ih a ha]
theorem st_tk_atm (g : Int → Int) : ∀ s : St, (s.atm g).tk = s.tk := by
  intro s
  induction s using St.ind with
  | h s i1 i2 i3 =>
  rw [stTk_eq, stTk_eq s]
  have h1 : (s.atm g).op = s.op ∧ (s.atm g).int = s.int ∧ (s.atm g).name = s.name ∧ (s.atm g).second = s.second ∧ (s.atm g).names = s.names ∧ (s.atm g).type = s.type ∧ (s.atm g).place = s.place ∧ (s.atm g).exprs = s.exprs.map (Ex.atm g) ∧ (s.atm g).body = s.body.map (St.atm g) ∧ (s.atm g).els = s.els.map (St.atm g) ∧ (s.atm g).arms = s.arms.map (Ar.atm g) := by
    rw [stAtm]; exact ⟨rfl, rfl, rfl, rfl, rfl, rfl, rfl, rfl, rfl, rfl, rfl⟩
  obtain ⟨k1, k2, k3, k4, k5, k6, k7, k8, k9, k10, k11⟩ := h1
  have e1 : (s.exprs.map (Ex.atm g)).map Ex.tk = s.exprs.map Ex.tk := by
    rw [List.map_map]
    exact List.map_congr_left fun a _ => ex_tk_atm g a
  have fl : ∀ b : List St, (∀ x ∈ b, (x.atm g).tk = x.tk) → (b.map (St.atm g)).flatMap St.tk = b.flatMap St.tk := fun b hb => by
    induction b with
    | nil => rfl
    | cons x b ih => rw [List.map_cons, List.flatMap_cons, List.flatMap_cons, hb x (List.mem_cons_self ..), ih fun y hy => hb y (List.mem_cons_of_mem _ hy)]
  have fa : ∀ as_ : List Ar, (∀ a ∈ as_, ∀ x ∈ a.body, (x.atm g).tk = x.tk) → (as_.map (Ar.atm g)).flatMap Ar.tk = as_.flatMap Ar.tk := fun b hb => by
    induction b with
    | nil => rfl
    | cons x b ih =>
      rw [List.map_cons, List.flatMap_cons, List.flatMap_cons, ih fun y hy => hb y (List.mem_cons_of_mem _ hy), arTk_eq, arTk_eq x]
      show armTk x.variant x.name ((x.body.map (St.atm g)).flatMap St.tk) ++ _ = _
      rw [fl x.body (hb x (List.mem_cons_self ..))]
  rw [k1, k2, k3, k4, k5, k6, k7, k8, k9, k10, k11, e1, fl s.body i1, List.length_map, fl s.els i2, fa s.arms i3]
theorem it_tk_atm (g : Int → Int) (x : It) : (x.atm g).tk = x.tk := by
  have fl : ∀ b : List St, (b.map (St.atm g)).flatMap St.tk = b.flatMap St.tk := fun b => by
    induction b with
    | nil => rfl
    | cons x b ih => rw [List.map_cons, List.flatMap_cons, List.flatMap_cons, st_tk_atm, ih]
  unfold It.tk It.atm
  simp only
  rw [fl, ex_tk_atm]
theorem prog_atm (g : Int → Int) : ∀ p : List It, progB (p.map (It.atm g)) = progB p
  | [] => rfl
  | x :: p => by
    rw [List.map_cons, progB_cons, progB_cons, prog_atm g p]
    unfold itemB
    rw [it_tk_atm]
/-- the theorem of chapter 4 -/
theorem texts_one {p q : List It} (hp : prWhole p = true) (hq : prWhole q = true) (rp : ∀ x ∈ p, ItRg x) (rq : ∀ x ∈ q, ItRg x) : progB p = progB q ↔ p.map keyI = q.map keyI := by
  refine ⟨fun h => ?_, fun h => ?_⟩
  · refine tokens_one (fun x hx => ⟨⟨_, (allUp_pair hp).2 x hx⟩, fun _ => rp x hx⟩) (fun x hx => ⟨⟨_, (allUp_pair hq).2 x hx⟩, fun _ => rq x hx⟩) (texts_tokens hp hq rp rq h)
  · rw [← prog_atm (fun _ => 0) p, ← prog_atm (fun _ => 0) q]
    exact congrArg progB h
theorem prog_empty {p : List It} : progB p = emS ↔ p = [] := by
  refine ⟨fun h => ?_, fun h => by rw [h]; rfl⟩
  cases p with
  | nil => rfl
  | cons x p =>
    rw [progB_cons] at h
    unfold itemB at h
    have := congrArg ByteArray.size h
    rw [ByteArray.size_append, ByteArray.size_append] at this
    have e1 : (⟨#[10]⟩ : ByteArray).size = 1 := rfl
    have e2 : emS.size = 0 := rfl
    omega
end Go.Proofs.YtlnoacoanfhdcaaGreatDoor
