/- 4 texts of this proof, one behind the other: PaTw PaTn PaTx PaT. The statement is proved in the claim's last text. -/
import Derived.Test.YtjkdpnnccaeepaaGreatDoorMPr
namespace Go.Proofs.YtjkdpnnccaeepaaGreatDoor
open Go.RowKit
attribute [local simp] List.replicate List.range List.range.loop resA resOne retA virtL virtO virt_get markL markO markR_get rowA awpI_nil awpI_cons List.forall_mem_cons List.contains_cons List.contains_nil List.find? nextD_eq awpD_nil awpD_cons LCp LCl refL
set_option linter.unusedVariables false
set_option linter.unusedSimpArgs false

set_option maxRecDepth 100000 in
set_option maxHeartbeats 16000000 in
theorem kind_word1 {l : List Tok} {s : RS} {k : Int} (hs : s.at_ ≤ l.length) (h1 : isP l s (⟨#[38]⟩ : ByteArray) 0 = false) (hf : findK (takeT l s 1) wordK = some k) (hb : s.bad = true) : RdC 51 [] l s (takeP l s 1) (.agg [U k, Sg emS, nilS]) := by
  have hm : mayP l s (⟨#[38]⟩ : ByteArray) = s := by unfold mayP; rw [h1]; rfl
  have htl := takeP_le (s := s) 1 hs
  obtain ⟨j, hj⟩ := find_mapK (takeT l s 1) wordK 0
  rw [hf, Option.map_some] at hj
  refine RdC.intro fun S d i hR => ?_
  have ho := (hR.upd s hs).o
  have hot := (hR.upd _ htl).o
  have hle := hs
  have hn := hR.n
  refine ADet.intro mixed Tryz.call51 Tryz.func51 rfl ?_
  simp [Tryz.ntmps51]
  refine ⟨_, _, (mayW s (⟨#[38]⟩ : ByteArray)).at hR hs _, ?_⟩
  rw [h1, hm]
  simp [ho]
  refine awp_draw [] (by kernel_rfl) (by kernel_rfl) ?_
  simp [ho, hb]
  refine ⟨_, _, (takeW s 1).at hR hs _, ?_⟩
  simp
  refine ⟨_, _, pwordsC _ _, ?_⟩
  simp [mapK, hj]
set_option maxRecDepth 100000 in
set_option maxHeartbeats 16000000 in
theorem kind_word2 {l : List Tok} {s : RS} {k : Int} (hs : s.at_ ≤ l.length) (h1 : isP l s (⟨#[38]⟩ : ByteArray) 0 = false) (hf : findK (takeT l s 1) wordK = some k) (hb : s.bad = false) (hlt : ¬ (s.at_ : Int) < (l.length : Int)) : RdC 51 [] l s (takeP l s 1) (.agg [U k, Sg emS, nilS]) := by
  have hm : mayP l s (⟨#[38]⟩ : ByteArray) = s := by unfold mayP; rw [h1]; rfl
  have htl := takeP_le (s := s) 1 hs
  obtain ⟨j, hj⟩ := find_mapK (takeT l s 1) wordK 0
  rw [hf, Option.map_some] at hj
  refine RdC.intro fun S d i hR => ?_
  have ho := (hR.upd s hs).o
  have hot := (hR.upd _ htl).o
  have hle := hs
  have hn := hR.n
  refine ADet.intro mixed Tryz.call51 Tryz.func51 rfl ?_
  simp [Tryz.ntmps51]
  refine ⟨_, _, (mayW s (⟨#[38]⟩ : ByteArray)).at hR hs _, ?_⟩
  rw [h1, hm]
  simp [ho]
  refine awp_draw [] (by kernel_rfl) (by kernel_rfl) ?_
  simp [ho, hb, hlt]
  refine ⟨_, _, (takeW s 1).at hR hs _, ?_⟩
  simp
  refine ⟨_, _, pwordsC _ _, ?_⟩
  simp [mapK, hj]
set_option maxRecDepth 100000 in
set_option maxHeartbeats 16000000 in
theorem kind_word3 {l : List Tok} {s : RS} {k : Int} (hs : s.at_ ≤ l.length) (h1 : isP l s (⟨#[38]⟩ : ByteArray) 0 = false) (hf : findK (takeT l s 1) wordK = some k) (hb : s.bad = false) (hlt : (s.at_ : Int) < (l.length : Int)) {x : Tok} (hx : l[s.at_]? = some x) (hk : ¬ x.kind = 3) : RdC 51 [] l s (takeP l s 1) (.agg [U k, Sg emS, nilS]) := by
  have hm : mayP l s (⟨#[38]⟩ : ByteArray) = s := by unfold mayP; rw [h1]; rfl
  have htl := takeP_le (s := s) 1 hs
  obtain ⟨j, hj⟩ := find_mapK (takeT l s 1) wordK 0
  rw [hf, Option.map_some] at hj
  refine RdC.intro fun S d i hR => ?_
  have ho := (hR.upd s hs).o
  have hot := (hR.upd _ htl).o
  have hle := hs
  have hn := hR.n
  refine ADet.intro mixed Tryz.call51 Tryz.func51 rfl ?_
  simp [Tryz.ntmps51]
  refine ⟨_, _, (mayW s (⟨#[38]⟩ : ByteArray)).at hR hs _, ?_⟩
  rw [h1, hm]
  simp [ho]
  refine awp_draw [] (by kernel_rfl) (by kernel_rfl) ?_
  simp [ho, hb, hlt, hx, hk, Tok.enc]
  refine ⟨_, _, (takeW s 1).at hR hs _, ?_⟩
  simp
  refine ⟨_, _, pwordsC _ _, ?_⟩
  simp [mapK, hj]
end Go.Proofs.YtjkdpnnccaeepaaGreatDoor

namespace Go.Proofs.YtjkdpnnccaeepaaGreatDoor
open Go.RowKit
attribute [local simp] List.replicate List.range List.range.loop resA resOne retA virtL virtO virt_get markL markO markR_get rowA awpI_nil awpI_cons List.forall_mem_cons List.contains_cons List.contains_nil List.find? nextD_eq awpD_nil awpD_cons LCp LCl refL
set_option linter.unusedVariables false
set_option linter.unusedSimpArgs false

set_option maxRecDepth 100000 in
set_option maxHeartbeats 16000000 in
theorem kind_none1 {l : List Tok} {s : RS} (hs : s.at_ ≤ l.length) (h1 : isP l s (⟨#[38]⟩ : ByteArray) 0 = false) (hf : findK (takeT l s 1) wordK = none) (hg : findK (takeT l s 1) wrapK = none) (hb : s.bad = true) : RdC 51 [] l s ⟨s.at_, true, s.full⟩ (.agg [U 0, Sg emS, nilS]) := by
  have hm : mayP l s (⟨#[38]⟩ : ByteArray) = s := by unfold mayP; rw [h1]; rfl
  have htl := takeP_le (s := s) 1 hs
  obtain ⟨j, hj⟩ := find_mapK (takeT l s 1) wordK 0
  rw [hf, Option.map_none] at hj
  obtain ⟨j2, hj2⟩ := find_mapK (takeT l s 1) wrapK 0
  rw [hg, Option.map_none] at hj2
  have hfu : (takeP l s 1).full = s.full := by unfold takeP; split <;> rfl
  refine RdC.intro fun S d i hR => ?_
  have ho := (hR.upd s hs).o
  have hot := (hR.upd _ htl).o
  have hle := hs
  have hn := hR.n
  refine ADet.intro mixed Tryz.call51 Tryz.func51 rfl ?_
  simp [Tryz.ntmps51]
  refine ⟨_, _, (mayW s (⟨#[38]⟩ : ByteArray)).at hR hs _, ?_⟩
  rw [h1, hm]
  simp [ho]
  refine awp_draw [] (by kernel_rfl) (by kernel_rfl) ?_
  simp [ho, hb]
  refine ⟨_, _, (takeW s 1).at hR hs _, ?_⟩
  simp
  refine ⟨_, _, pwordsC _ _, ?_⟩
  simp [mapK, hj]
  refine ⟨_, _, pwrapsC _ _, ?_⟩
  have hRo := hR.o
  simp [mapK, hj2, hot, hfu, hRo]
set_option maxRecDepth 100000 in
set_option maxHeartbeats 16000000 in
theorem kind_none2 {l : List Tok} {s : RS} (hs : s.at_ ≤ l.length) (h1 : isP l s (⟨#[38]⟩ : ByteArray) 0 = false) (hf : findK (takeT l s 1) wordK = none) (hg : findK (takeT l s 1) wrapK = none) (hb : s.bad = false) (hlt : ¬ (s.at_ : Int) < (l.length : Int)) : RdC 51 [] l s ⟨s.at_, true, s.full⟩ (.agg [U 0, Sg emS, nilS]) := by
  have hm : mayP l s (⟨#[38]⟩ : ByteArray) = s := by unfold mayP; rw [h1]; rfl
  have htl := takeP_le (s := s) 1 hs
  obtain ⟨j, hj⟩ := find_mapK (takeT l s 1) wordK 0
  rw [hf, Option.map_none] at hj
  obtain ⟨j2, hj2⟩ := find_mapK (takeT l s 1) wrapK 0
  rw [hg, Option.map_none] at hj2
  have hfu : (takeP l s 1).full = s.full := by unfold takeP; split <;> rfl
  refine RdC.intro fun S d i hR => ?_
  have ho := (hR.upd s hs).o
  have hot := (hR.upd _ htl).o
  have hle := hs
  have hn := hR.n
  refine ADet.intro mixed Tryz.call51 Tryz.func51 rfl ?_
  simp [Tryz.ntmps51]
  refine ⟨_, _, (mayW s (⟨#[38]⟩ : ByteArray)).at hR hs _, ?_⟩
  rw [h1, hm]
  simp [ho]
  refine awp_draw [] (by kernel_rfl) (by kernel_rfl) ?_
  simp [ho, hb, hlt]
  refine ⟨_, _, (takeW s 1).at hR hs _, ?_⟩
  simp
  refine ⟨_, _, pwordsC _ _, ?_⟩
  simp [mapK, hj]
  refine ⟨_, _, pwrapsC _ _, ?_⟩
  have hRo := hR.o
  simp [mapK, hj2, hot, hfu, hRo]
set_option maxRecDepth 100000 in
set_option maxHeartbeats 16000000 in
theorem kind_none3 {l : List Tok} {s : RS} (hs : s.at_ ≤ l.length) (h1 : isP l s (⟨#[38]⟩ : ByteArray) 0 = false) (hf : findK (takeT l s 1) wordK = none) (hg : findK (takeT l s 1) wrapK = none) (hb : s.bad = false) (hlt : (s.at_ : Int) < (l.length : Int)) {x : Tok} (hx : l[s.at_]? = some x) (hk : ¬ x.kind = 3) : RdC 51 [] l s ⟨s.at_, true, s.full⟩ (.agg [U 0, Sg emS, nilS]) := by
  have hm : mayP l s (⟨#[38]⟩ : ByteArray) = s := by unfold mayP; rw [h1]; rfl
  have htl := takeP_le (s := s) 1 hs
  obtain ⟨j, hj⟩ := find_mapK (takeT l s 1) wordK 0
  rw [hf, Option.map_none] at hj
  obtain ⟨j2, hj2⟩ := find_mapK (takeT l s 1) wrapK 0
  rw [hg, Option.map_none] at hj2
  have hfu : (takeP l s 1).full = s.full := by unfold takeP; split <;> rfl
  refine RdC.intro fun S d i hR => ?_
  have ho := (hR.upd s hs).o
  have hot := (hR.upd _ htl).o
  have hle := hs
  have hn := hR.n
  refine ADet.intro mixed Tryz.call51 Tryz.func51 rfl ?_
  simp [Tryz.ntmps51]
  refine ⟨_, _, (mayW s (⟨#[38]⟩ : ByteArray)).at hR hs _, ?_⟩
  rw [h1, hm]
  simp [ho]
  refine awp_draw [] (by kernel_rfl) (by kernel_rfl) ?_
  simp [ho, hb, hlt, hx, hk, Tok.enc]
  refine ⟨_, _, (takeW s 1).at hR hs _, ?_⟩
  simp
  refine ⟨_, _, pwordsC _ _, ?_⟩
  simp [mapK, hj]
  refine ⟨_, _, pwrapsC _ _, ?_⟩
  have hRo := hR.o
  simp [mapK, hj2, hot, hfu, hRo]
end Go.Proofs.YtjkdpnnccaeepaaGreatDoor

namespace Go.Proofs.YtjkdpnnccaeepaaGreatDoor
open Go.RowKit
attribute [local simp] List.replicate List.range List.range.loop resA resOne retA virtL virtO virt_get markL markO markR_get rowA awpI_nil awpI_cons List.forall_mem_cons List.contains_cons List.contains_nil List.find? nextD_eq awpD_nil awpD_cons LCp LCl refL
set_option linter.unusedVariables false
set_option linter.unusedSimpArgs false

set_option maxRecDepth 100000 in
set_option maxHeartbeats 16000000 in
theorem kind_wrap1 {l : List Tok} {s : RS} {k : Int} {t1 : Ty} {s1 : RS} (hs : s.at_ ≤ l.length) (h1 : isP l s (⟨#[38]⟩ : ByteArray) 0 = false) (hf : findK (takeT l s 1) wordK = none) (hg : findK (takeT l s 1) wrapK = some k) (hm2 : s1.at_ ≤ l.length) (ih : RdC 51 [] l (mustP l (takeP l s 1) [(⟨#[60]⟩ : ByteArray)]) s1 (tyA t1)) (hb : s.bad = true) : RdC 51 [] l s (mustP l s1 [(⟨#[62]⟩ : ByteArray)]) (tyA (.mk k emS [t1])) := by
  have hm : mayP l s (⟨#[38]⟩ : ByteArray) = s := by unfold mayP; rw [h1]; rfl
  have htl := takeP_le (s := s) 1 hs
  obtain ⟨j, hj⟩ := find_mapK (takeT l s 1) wordK 0
  rw [hf, Option.map_none] at hj
  obtain ⟨j2, hj2⟩ := find_mapK (takeT l s 1) wrapK 0
  rw [hg, Option.map_some] at hj2
  have hm1 := mustP_le [(⟨#[60]⟩ : ByteArray)] _ htl
  refine RdC.intro fun S d i hR => ?_
  have ho := (hR.upd s hs).o
  have hot := (hR.upd _ htl).o
  have hle := hs
  have hn := hR.n
  refine ADet.intro mixed Tryz.call51 Tryz.func51 rfl ?_
  simp [Tryz.ntmps51]
  refine ⟨_, _, (mayW s (⟨#[38]⟩ : ByteArray)).at hR hs _, ?_⟩
  rw [h1, hm]
  simp [ho]
  refine awp_draw [] (by kernel_rfl) (by kernel_rfl) ?_
  simp [ho, hb]
  refine ⟨_, _, (takeW s 1).at hR hs _, ?_⟩
  simp
  refine ⟨_, _, pwordsC _ _, ?_⟩
  simp [mapK, hj]
  refine ⟨_, _, pwrapsC _ _, ?_⟩
  simp [mapK, hj2]
  refine ⟨_, _, ADet.sub (.cons (.refl _) (.cons (.osl (.refl _)) (.refl _))) ((mustW (takeP l s 1) [(⟨#[60]⟩ : ByteArray)] (by simp) htl).at hR htl _), ?_⟩
  simp
  refine ⟨_, _, ih.at hR hm1 _, ?_⟩
  simp
  refine ⟨_, _, ADet.sub (.cons (.refl _) (.cons (.osl (.refl _)) (.refl _))) ((mustW s1 [(⟨#[62]⟩ : ByteArray)] (by simp) hm2).at hR hm2 _), ?_⟩
  simp
  exact ⟨rfl, rfl, by simp [Ty.args, tyEnc]⟩
set_option maxRecDepth 100000 in
set_option maxHeartbeats 16000000 in
theorem kind_wrap2 {l : List Tok} {s : RS} {k : Int} {t1 : Ty} {s1 : RS} (hs : s.at_ ≤ l.length) (h1 : isP l s (⟨#[38]⟩ : ByteArray) 0 = false) (hf : findK (takeT l s 1) wordK = none) (hg : findK (takeT l s 1) wrapK = some k) (hm2 : s1.at_ ≤ l.length) (ih : RdC 51 [] l (mustP l (takeP l s 1) [(⟨#[60]⟩ : ByteArray)]) s1 (tyA t1)) (hb : s.bad = false) (hlt : ¬ (s.at_ : Int) < (l.length : Int)) : RdC 51 [] l s (mustP l s1 [(⟨#[62]⟩ : ByteArray)]) (tyA (.mk k emS [t1])) := by
  have hm : mayP l s (⟨#[38]⟩ : ByteArray) = s := by unfold mayP; rw [h1]; rfl
  have htl := takeP_le (s := s) 1 hs
  obtain ⟨j, hj⟩ := find_mapK (takeT l s 1) wordK 0
  rw [hf, Option.map_none] at hj
  obtain ⟨j2, hj2⟩ := find_mapK (takeT l s 1) wrapK 0
  rw [hg, Option.map_some] at hj2
  have hm1 := mustP_le [(⟨#[60]⟩ : ByteArray)] _ htl
  refine RdC.intro fun S d i hR => ?_
  have ho := (hR.upd s hs).o
  have hot := (hR.upd _ htl).o
  have hle := hs
  have hn := hR.n
  refine ADet.intro mixed Tryz.call51 Tryz.func51 rfl ?_
  simp [Tryz.ntmps51]
  refine ⟨_, _, (mayW s (⟨#[38]⟩ : ByteArray)).at hR hs _, ?_⟩
  rw [h1, hm]
  simp [ho]
  refine awp_draw [] (by kernel_rfl) (by kernel_rfl) ?_
  simp [ho, hb, hlt]
  refine ⟨_, _, (takeW s 1).at hR hs _, ?_⟩
  simp
  refine ⟨_, _, pwordsC _ _, ?_⟩
  simp [mapK, hj]
  refine ⟨_, _, pwrapsC _ _, ?_⟩
  simp [mapK, hj2]
  refine ⟨_, _, ADet.sub (.cons (.refl _) (.cons (.osl (.refl _)) (.refl _))) ((mustW (takeP l s 1) [(⟨#[60]⟩ : ByteArray)] (by simp) htl).at hR htl _), ?_⟩
  simp
  refine ⟨_, _, ih.at hR hm1 _, ?_⟩
  simp
  refine ⟨_, _, ADet.sub (.cons (.refl _) (.cons (.osl (.refl _)) (.refl _))) ((mustW s1 [(⟨#[62]⟩ : ByteArray)] (by simp) hm2).at hR hm2 _), ?_⟩
  simp
  exact ⟨rfl, rfl, by simp [Ty.args, tyEnc]⟩
set_option maxRecDepth 100000 in
set_option maxHeartbeats 16000000 in
theorem kind_wrap3 {l : List Tok} {s : RS} {k : Int} {t1 : Ty} {s1 : RS} (hs : s.at_ ≤ l.length) (h1 : isP l s (⟨#[38]⟩ : ByteArray) 0 = false) (hf : findK (takeT l s 1) wordK = none) (hg : findK (takeT l s 1) wrapK = some k) (hm2 : s1.at_ ≤ l.length) (ih : RdC 51 [] l (mustP l (takeP l s 1) [(⟨#[60]⟩ : ByteArray)]) s1 (tyA t1)) (hb : s.bad = false) (hlt : (s.at_ : Int) < (l.length : Int)) {x : Tok} (hx : l[s.at_]? = some x) (hk : ¬ x.kind = 3) : RdC 51 [] l s (mustP l s1 [(⟨#[62]⟩ : ByteArray)]) (tyA (.mk k emS [t1])) := by
  have hm : mayP l s (⟨#[38]⟩ : ByteArray) = s := by unfold mayP; rw [h1]; rfl
  have htl := takeP_le (s := s) 1 hs
  obtain ⟨j, hj⟩ := find_mapK (takeT l s 1) wordK 0
  rw [hf, Option.map_none] at hj
  obtain ⟨j2, hj2⟩ := find_mapK (takeT l s 1) wrapK 0
  rw [hg, Option.map_some] at hj2
  have hm1 := mustP_le [(⟨#[60]⟩ : ByteArray)] _ htl
  refine RdC.intro fun S d i hR => ?_
  have ho := (hR.upd s hs).o
  have hot := (hR.upd _ htl).o
  have hle := hs
  have hn := hR.n
  refine ADet.intro mixed Tryz.call51 Tryz.func51 rfl ?_
  simp [Tryz.ntmps51]
  refine ⟨_, _, (mayW s (⟨#[38]⟩ : ByteArray)).at hR hs _, ?_⟩
  rw [h1, hm]
  simp [ho]
  refine awp_draw [] (by kernel_rfl) (by kernel_rfl) ?_
  simp [ho, hb, hlt, hx, hk, Tok.enc]
  refine ⟨_, _, (takeW s 1).at hR hs _, ?_⟩
  simp
  refine ⟨_, _, pwordsC _ _, ?_⟩
  simp [mapK, hj]
  refine ⟨_, _, pwrapsC _ _, ?_⟩
  simp [mapK, hj2]
  refine ⟨_, _, ADet.sub (.cons (.refl _) (.cons (.osl (.refl _)) (.refl _))) ((mustW (takeP l s 1) [(⟨#[60]⟩ : ByteArray)] (by simp) htl).at hR htl _), ?_⟩
  simp
  refine ⟨_, _, ih.at hR hm1 _, ?_⟩
  simp
  refine ⟨_, _, ADet.sub (.cons (.refl _) (.cons (.osl (.refl _)) (.refl _))) ((mustW s1 [(⟨#[62]⟩ : ByteArray)] (by simp) hm2).at hR hm2 _), ?_⟩
  simp
  exact ⟨rfl, rfl, by simp [Ty.args, tyEnc]⟩
end Go.Proofs.YtjkdpnnccaeepaaGreatDoor

namespace Go.Proofs.YtjkdpnnccaeepaaGreatDoor
open Go.RowKit
attribute [local simp] List.replicate List.range List.range.loop resA resOne retA virtL virtO virt_get markL markO markR_get rowA awpI_nil awpI_cons List.forall_mem_cons List.contains_cons List.contains_nil List.find? nextD_eq awpD_nil awpD_cons LCp LCl refL
set_option linter.unusedVariables false
set_option linter.unusedSimpArgs false

set_option maxRecDepth 100000 in
set_option maxHeartbeats 16000000 in
theorem kindRC : ∀ (n : Nat) (l : List Tok) (s : RS) (t : Ty) (s' : RS), s.at_ ≤ l.length → kindP l n s = some (t, s') → RdC 51 [] l s s' (tyA t)
  | 0, l, s, t, s', _, h => by simp [kindP] at h
  | n + 1, l, s, t, s', hs, h => by
    unfold kindP at h
    cases h1 : isP l s (⟨#[38]⟩ : ByteArray) 0 with
    | true =>
      rw [h1, if_pos rfl] at h
      dsimp only at h
      obtain ⟨⟨t1, s1⟩, hk, he⟩ := Option.map_eq_some_iff.1 h
      have hm1 := mayP_le (s := s) (⟨#[38]⟩ : ByteArray) hs
      have hm2 := mayP_le (s := mayP l s (⟨#[38]⟩ : ByteArray)) (⟨#[109, 117, 116]⟩ : ByteArray) hm1
      have ih := kindRC n l _ t1 s1 hm2 hk
      refine RdC.intro fun S d i hR => ?_
      refine ADet.intro mixed Tryz.call51 Tryz.func51 rfl ?_
      simp [Tryz.ntmps51]
      refine ⟨_, _, (mayW s (⟨#[38]⟩ : ByteArray)).at hR hs _, ?_⟩
      rw [h1]
      simp
      refine ⟨_, _, (mayW _ (⟨#[109, 117, 116]⟩ : ByteArray)).at hR hm1 _, ?_⟩
      cases h2 : isP l (mayP l s (⟨#[38]⟩ : ByteArray)) (⟨#[109, 117, 116]⟩ : ByteArray) 0 with
      | true =>
        rw [h2] at he
        cases he
        simp
        refine ⟨_, _, ih.at hR hm2 _, ?_⟩
        simp
        exact ⟨rfl, rfl, by simp [Ty.args, tyEnc]⟩
      | false =>
        rw [h2] at he
        cases he
        simp
        refine ⟨_, _, ih.at hR hm2 _, ?_⟩
        simp
        exact ⟨rfl, rfl, by simp [Ty.args, tyEnc]⟩
    | false =>
    rw [h1, if_neg (by simp)] at h
    cases hh : handP l s 3 with
    | true =>
      rw [hh, if_pos rfl] at h
      cases h
      obtain ⟨hb, hlt, x, hx, hk⟩ := handP_true hh
      refine RdC.less (r := .agg [U 4, Sg (takeT l s 3), nilS]) (by repeat' constructor) (RdC.intro fun S d i hR => ?_)
      have hm : mayP l s (⟨#[38]⟩ : ByteArray) = s := by unfold mayP; rw [h1]; rfl
      have ho := (hR.upd s hs).o
      refine ADet.intro mixed Tryz.call51 Tryz.func51 rfl ?_
      simp [Tryz.ntmps51]
      refine ⟨_, _, (mayW s (⟨#[38]⟩ : ByteArray)).at hR hs _, ?_⟩
      rw [h1, hm]
      simp [ho]
      refine awp_draw [] (by kernel_rfl) (by kernel_rfl) ?_
      simp [ho, hb, hlt, hx, hk, Tok.enc]
      refine ⟨_, _, (namedW s).at hR hs _, ?_⟩
      simp
    | false =>
    rw [hh, if_neg (by simp)] at h
    have htl := takeP_le (s := s) 1 hs
    cases hf : findK (takeT l s 1) wordK with
    | some k =>
      rw [hf] at h
      cases h
      refine RdC.less (r := .agg [U k, Sg emS, nilS]) (by repeat' constructor) ?_
      rcases handP_false hh with hb | ⟨hb, hlt⟩ | ⟨hb, hlt, x, hx, hk⟩
      · exact kind_word1 hs h1 hf hb
      · exact kind_word2 hs h1 hf hb hlt
      · exact kind_word3 hs h1 hf hb hlt hx hk
    | none =>
    rw [hf] at h
    dsimp only at h
    cases hg : findK (takeT l s 1) wrapK with
    | none =>
      rw [hg] at h
      cases h
      refine RdC.less (r := .agg [U 0, Sg emS, nilS]) (by repeat' constructor) ?_
      rcases handP_false hh with hb | ⟨hb, hlt⟩ | ⟨hb, hlt, x, hx, hk⟩
      · exact kind_none1 hs h1 hf hg hb
      · exact kind_none2 hs h1 hf hg hb hlt
      · exact kind_none3 hs h1 hf hg hb hlt hx hk
    | some k =>
      rw [hg] at h
      dsimp only at h
      obtain ⟨⟨t1, s1⟩, hk, he⟩ := Option.map_eq_some_iff.1 h
      cases he
      have hm1 := mustP_le [(⟨#[60]⟩ : ByteArray)] _ htl
      have hm2 := kindP_le n l _ t1 s1 hm1 hk
      have ih := kindRC n l _ t1 s1 hm1 hk
      rcases handP_false hh with hb | ⟨hb, hlt⟩ | ⟨hb, hlt, x, hx, hk⟩
      · exact kind_wrap1 hs h1 hf hg hm2 ih hb
      · exact kind_wrap2 hs h1 hf hg hm2 ih hb hlt
      · exact kind_wrap3 hs h1 hf hg hm2 ih hb hlt hx hk
end Go.Proofs.YtjkdpnnccaeepaaGreatDoor
