/- A part of the proof. The statement is proved in the claim's last text. -/
import Derived.Test.YtfiohepfohhibaaDoorPMLk
import Derived.Test.YtfiohepfohhibaaDoorRows
import Derived.Test.YtfiohepfohhibaaDoorPMShelf
import Derived.Maps.Own
import Derived.Maps.OwnOps
import Derived.Lib.AppendIntMem
import Derived.Handy
import Derived.Test.YtfiohepfohhibaaDoorPMLt
set_option linter.unusedVariables false
set_option linter.unusedSimpArgs false
set_option maxRecDepth 100000
set_option maxHeartbeats 32000000
namespace Go.Proofs.YtfiohepfohhibaaDoor
open Go.RowKit
def words : List (List UInt8):=[[108,101,116],[105,102],[101,108,115,101],[119,104,105,108,101],[109,97,116,99,104],[115,99,111,112,101],[115,112,97,119,110],[108,111,99,107],[97,115],[99,104,97,110],[100,114,111,112],[102,110],[115,116,114,117,99,116],[101,110,117,109],[116,114,117,101],[102,97,108,115,101],[97,110,100],[111,114],[110,111,116],[105,110,116],[98,111,111,108],[117,110,105,116],[109,117,116],[98,111,120],[117,110,98,111,120],[99,101,108,108],[103,101,116],[115,101,116],[114,99],[97,114,99],[99,108,111,110,101],[109,117,116,101,120],[111,112,101,110],[97,116,111,109,105,99],[108,111,97,100],[115,116,111,114,101],[102,101,116,99,104],[115,101,110,100],[114,101,99,118],[66,111,120],[67,101,108,108],[82,99],[65,114,99],[77,117,116,101,120],[65,116,111,109,105,99],[83,101,110,100,101,114],[82,101,99,101,105,118,101,114]]
theorem words_len : words.length = 47:=rfl
def lowerB (b : Int) : Bool:=decide (97 ≤ b) && decide (b ≤ 122)
def upperB (b : Int) : Bool:=decide (65 ≤ b) && decide (b ≤ 90)
def digitB (b : Int) : Bool:=decide (48 ≤ b) && decide (b ≤ 57)
def partB (b : Int) : Bool:=lowerB b || upperB b || digitB b || b == 95
def runLen (p : Int → Bool) : List UInt8 → Nat
 | []=>0
 | b :: l=>if p b.toNat then runLen p l + 1 else 0
theorem runLen_at {p : Int → Bool} : ∀ {l : List UInt8} {q : Nat},AllTo (fun b=>p b.toNat = true) l q → q ≤ l.length → (∀ h : q < l.length,p (l[q].toNat) = false) → runLen p l = q
 | [],q,_,hq,_=>by simp at hq; subst hq; rfl
 | b :: l,0,_,_,h=>by
  have:=h (by simp)
  simp at this
  simp [runLen,this]
 | b :: l,q + 1,h,hq,h'=>by
  have h0 : p b.toNat = true:=h 0 (by simp) (by omega)
  rw [runLen,if_pos h0,runLen_at (q:=q) (fun i hi hlt=>h (i + 1) (by simpa using hi) (by omega)) (by simpa using hq) (fun hl=>h' (by simpa using hl))]
def wordB (s : ByteArray) : Bool:=decide (s.data.toList ∈ words)
def namedB (p : Int → Bool) (s : ByteArray) : Bool :=
 if h : 0 < s.size then decide (s.size ≤ 16) && (p (s[0].toNat) && ((runLen partB s.data.toList == s.size) && !wordB s)) else false
theorem namedB_pos {p : Int → Bool} {s : ByteArray} (h : 0 < s.size) : namedB p s = (decide (s.size ≤ 16) && (p (s[0].toNat) && ((runLen partB s.data.toList == s.size) && !wordB s))):=by rw [namedB,dif_pos h]
theorem runLen_le (p : Int → Bool) : ∀ l : List UInt8,runLen p l ≤ l.length
 | []=>Nat.le_refl _
 | b :: l=>by have:=runLen_le p l; simp only [runLen]; split <;> simp <;> omega
def typeB (s : ByteArray) : Bool:=namedB upperB s
def nameB (s : ByteArray) : Bool:=namedB lowerB s
end Go.Proofs.YtfiohepfohhibaaDoor
namespace Go.Proofs.YtfiohepfohhibaaDoor
open Go.RowKit Go.WideMaps Go.Maps
def wordsStr : ByteArray:=⟨[108,101,116,32,105,102,32,101,108,115,101,32,119,104,105,108,101,32,109,97,116,99,104,32,115,99,111,112,101,32,115,112,97,119,110,32,108,111,99,107,32,97,115,32,99,104,97,110,32,100,114,111,112,32,102,110,32,115,116,114,117,99,116,32,101,110,117,109,32,116,114,117,101,32,102,97,108,115,101,32,97,110,100,32,111,114,32,110,111,116,32,105,110,116,32,98,111,111,108,32,117,110,105,116,32,109,117,116,32,98,111,120,32,117,110,98,111,120,32,99,101,108,108,32,103,101,116,32,115,101,116,32,114,99,32,97,114,99,32,99,108,111,110,101,32,109,117,116,101,120,32,111,112,101,110,32,97,116,111,109,105,99,32,108,111,97,100,32,115,116,111,114,101,32,102,101,116,99,104,32,115,101,110,100,32,114,101,99,118,32,66,111,120,32,67,101,108,108,32,82,99,32,65,114,99,32,77,117,116,101,120,32,65,116,111,109,105,99,32,83,101,110,100,101,114,32,82,101,99,101,105,118,101,114].toArray⟩
abbrev Tab (w : World) : Prop:=Lib.TabIs Tryd.prog w "strings.asciiSpace" .u8 Lib.asciiSpaceTab
theorem Tab.below {w w' : World} (h : Tab w) (hb : Below w.heap.size w w') : Tab w':=Lib.tabBelow_of_tabIs h w' hb
theorem fields_words (w : World) (h : Tab w) : Calls Tryd.prog 64 #[.string wordsStr] w fun e w' =>
  e = .returned (.slice (some ⟨w.heap.size,0,none⟩) 47 47) ∧ w' = w.alloc (.cells (words.map fun l=>Value.string ⟨l.toArray⟩).toArray 9):=by
 have e : Lib.fields wordsStr.data.toList = words:=by kernel_rfl
 have h1:=Tryd.strings_Fields wordsStr w (of_decide_eq_true (by kernel_rfl)) (fun j b hb=>by
  have h2 : wordsStr.data.toList.all (fun b=>decide (b.toNat < 128)) = true:=by kernel_rfl
  exact of_decide_eq_true (List.all_eq_true.1 h2 b (List.mem_of_getElem? hb))) h
 rw [e] at h1
 exact h1
theorem lower_any (b : Int) (w : World) : Calls Tryd.prog 31 #[.int .u8 b] w fun e w'=>e = .returned (.bool (lowerB b)) ∧ w = w':=by
 have hv : lowerB b = (decide (97 ≤ b) && decide (b ≤ 122)):=rfl
 generalize lowerB b = c at *
 go_enter Tryd.func31,Tryd.ntmps31
 go_wp2
 all_goals go_ret
 all_goals exact ⟨by first | (simp [*]; done) | (simp [*]; omega),rfl⟩
theorem upper_any (b : Int) (w : World) : Calls Tryd.prog 32 #[.int .u8 b] w fun e w'=>e = .returned (.bool (upperB b)) ∧ w = w':=by
 have hv : upperB b = (decide (65 ≤ b) && decide (b ≤ 90)):=rfl
 generalize upperB b = c at *
 go_enter Tryd.func32,Tryd.ntmps32
 go_wp2
 all_goals go_ret
 all_goals exact ⟨by first | (simp [*]; done) | (simp [*]; omega),rfl⟩
theorem digit_any (b : Int) (w : World) : Calls Tryd.prog 37 #[.int .u8 b] w fun e w'=>e = .returned (.bool (digitB b)) ∧ w = w':=by
 have hv : digitB b = (decide (48 ≤ b) && decide (b ≤ 57)):=rfl
 generalize digitB b = c at *
 go_enter Tryd.func37,Tryd.ntmps37
 go_wp2
 all_goals go_ret
 all_goals exact ⟨by first | (simp [*]; done) | (simp [*]; omega),rfl⟩
theorem part_any (b : Int) (w : World) : Calls Tryd.prog 33 #[.int .u8 b] w fun e w'=>e = .returned (.bool (partB b)) ∧ w = w':=by
 have hv : partB b = (lowerB b || upperB b || digitB b || b == 95):=rfl
 have H1:=Lib.hid (lower_any b)
 have H2:=Lib.hid (upper_any b)
 have H3:=Lib.hid (digit_any b)
 generalize partB b = c at *
 generalize lowerB b = c1 at *
 generalize upperB b = c2 at *
 generalize digitB b = c3 at *
 go_enter Tryd.func33,Tryd.ntmps33
 go_wp2_with (first
  | (go_at_call 31; refine (H1.out _).mono ?_; rintro e w1 ⟨rfl,rfl⟩)
  | (go_at_call 32; refine (H2.out _).mono ?_; rintro e w1 ⟨rfl,rfl⟩)
  | (go_at_call 37; refine (H3.out _).mono ?_; rintro e w1 ⟨rfl,rfl⟩))
 all_goals go_ret
 all_goals exact ⟨by first | (simp [*]; done) | (simp [*]; omega),rfl⟩
theorem run_any (p : Int → Bool) (K : FuncId) (C : Array Value) (s : ByteArray) (hs : s.size ≤ maxLen) (hK : ∀ args w,(callFunc K args).run Tryd.prog w = .ok (.enter K args) w)
  (hp : ∀ (b : Int) (w : World),Calls Tryd.prog K (#[.int .u8 b] ++ C) w fun e w'=>e = .returned (.bool (p b)) ∧ w = w') (w : World) :
  Calls Tryd.prog 29 #[.string s,.func (.func K) #[] C] w fun e w'=>e = .returned (.int .i64 (runLen p s.data.toList)) ∧ w = w':=by
 unfold maxLen at hs
 have Hp:=Lib.hid hp
 clear hp
 go_enter Tryd.func29,Tryd.ntmps29
 go_wp2
 go_loop [5] (fun i=>∃ q : Nat,q ≤ s.size ∧ i = .int .i64 q ∧ AllTo (fun b=>p b.toNat = true) s.data.toList q)  (fun i=>s.size - (intOf i).toNat)
 case atStart=>exact ⟨0,Nat.zero_le _,rfl,AllTo.zero _ _⟩
 case round =>
  obtain ⟨q,hq,rfl,hall⟩:=hrel
  have hlen : s.data.toList.length = s.size:=by simp
  have Hlen:=Lib.hid hlen
  clear hlen
  by_cases hlt : q < s.size
  ·have hlt' : q < s.data.toList.length:=by rw [Hlen.out]; exact hlt
   have hsp : s[q] = s.data.toList[q]:=rfl
   have Hsp:=Lib.hid hsp
   clear hsp
   go_wp2_with fail
   refine (Hp.out _ _).mono ?_
   rintro e w1 ⟨rfl,rfl⟩
   go_wp2
   ·have hn : p (s[q].toNat) = true:=by assumption
    go_round
    case rel=>exact ⟨q + 1,by omega,by go_num,hall.succ hlt' (by rw [← Hsp.out]; exact hn)⟩
    case measure=>simp [intOf]; omega
   ·have hn : p (s[q].toNat) = false:=by assumption
    go_ret
    exact ⟨by rw [runLen_at hall (by rw [Hlen.out]; omega) (fun h=>by rw [← Hsp.out]; exact hn)]; rfl,rfl⟩
  ·go_wp2
   go_ret
   exact ⟨by rw [runLen_at hall (by rw [Hlen.out]; omega) (fun h=>by rw [Hlen.out] at h; omega)]; rfl,rfl⟩
theorem words_law : Keyed Tryd.prog 9:=string_keyed Tryd.underlying9
theorem words_zero (w : World) : (zeroValue 3).run Tryd.prog w = .ok (.int .i64 0) w:=by kernel_rfl
theorem words_small : words.all (fun l=>decide (l.length ≤ 100)) = true:=by decide
def WordsMap (H : Type) (w : World) (B q : Nat) : Prop :=
 ∃ D : DataW H,w.ownsMap Tryd.prog 9 (plainElem Tryd.prog 3) B q D ∧ IsMap D ∧ ∀ s : List UInt8,∃ c : Int,D.atKey (.string s) (.lit (.int .i64 0)) = .lit (.int .i64 c) ∧ 0 ≤ c ∧ c ≤ 1000 ∧ (0 < c ↔ s ∈ words.take q)
theorem words_any (H : Type) (w : World) (h : Tab w) :
  Calls Tryd.prog 53 #[] w fun e w'=>e = .returned (.map (some w.heap.size)) ∧ WordsMap H w' w.heap.size 47 ∧ Below w.heap.size w w':=by
 have hmm:=@run_makeMap Tryd.prog
 have Hf:=Lib.hid (fields_words (w.alloc (.map #[] 0)) (h.below ((Below.refl _ _).alloc (Nat.le_refl _) _)))
 clear h
 go_enter Tryd.func53,Tryd.ntmps53
 go_wp2_with (go_at_call 64; refine Hf.out.mono ?_; rintro e w1 ⟨rfl,rfl⟩)
 go_loopw [7] (fun i wr=>∃ q : Nat,q ≤ 47 ∧ i = .int .i64 q ∧ WordsMap H wr w.heap.size q ∧ Below w.heap.size w wr ∧ wr.heap[w.heap.size + 1]? = some (.cells (words.map fun l=>Value.string ⟨l.toArray⟩).toArray 9))  (fun i _=>47 - (intOf i).toNat)
 case atStart =>
  refine ⟨0,by omega,rfl,⟨.map [],(World.ownsMap_made _ _ _ _).alloc _,⟨_,rfl⟩,fun s=>⟨0,rfl,by omega,by omega,by simp⟩⟩,((Below.refl _ _).alloc (Nat.le_refl _) _).alloc (by simp) _,by simpa using blk_new (w.alloc (.map #[] 0)) _⟩
 case round =>
  obtain ⟨q,hq,rfl,⟨D,hown,hmap,hat⟩,hb,hblk⟩:=hrel
  have hz : w.heap.size + 1 < wr.heap.size:=blk_lt hblk
  have Hblk:=Lib.hid hblk
  have Hat:=Lib.hid hat
  have Hown:=Lib.hid hown
  have Hmap:=Lib.hid hmap
  clear hat hmap hown
  by_cases hlt : q < 47
  ·have hwl : q < words.length:=hlt
   have c0 : wr.cell? ⟨w.heap.size + 1,q,none⟩ = some (.string ⟨(words[q]'hwl).toArray⟩):=by
    rw [cell_blk hblk]
    simp [List.getElem?_eq_getElem hwl]
   have hsm : (words[q]'hwl).length ≤ 100:=of_decide_eq_true (List.all_eq_true.1 words_small _ (List.getElem_mem hwl))
   have hkey : keyOf Tryd.prog 9 (.string ⟨(words[q]'hwl).toArray⟩) = some (.string (words[q]'hwl)):=keyOf_string_mk Tryd.underlying9 (by show (words[q]'hwl).toArray.size ≤ maxLen; simp [maxLen]; omega)
   have Hkey:=Lib.hid hkey
   have htk : words.take (q + 1) = words.take q ++ [words[q]'hwl]:=by rw [List.take_add_one,List.getElem?_eq_getElem hwl]; rfl
   have Htk:=Lib.hid htk
   clear hblk hkey htk
   generalize words[q]'hwl = k at *
   go_wp2_with (at_mapUpdate; refine wpList_mapUpdate_own _ rfl _ _ _ 97 rfl 9 3 words_law Tryd.underlying97 _ w.heap.size q _ rfl Hown.out (by unfold maxLen; omega) _ _ _ rfl rfl Hkey.out _ [] (plainElem_int Tryd.underlying3 (WalkArith.wf_i64 (by omega))) ?_; intro w1 hown1 hgrow1)
   refine ⟨⟨q + 1,by omega,by go_num,⟨_,hown1,Hmap.out.put _ _,fun s=>?_⟩,hb.grown hgrow1 hb.size (fun j hj=>by cases hj; exact Nat.le_refl _),(hgrow1.block _ hz (by simp)).trans Hblk.out⟩,by simp [intOf]; omega⟩
   by_cases hs : s = k
   ·subst hs
    exact ⟨q + 1,atKey_put_same Hmap.out (by simp [WideAt.IsKeyLit]) _ _,by omega,by omega,by rw [Htk.out]; simp⟩
   ·obtain ⟨c,h1,h2,h3,h4⟩:=Hat.out s
    exact ⟨c,(atKey_put_other (by simpa using hs) _ _).trans h1,h2,h3,by rw [Htk.out,h4]; simp [hs]⟩
  ·obtain rfl : q = 47:=by omega
   clear hblk
   go_wp2
   go_ret
   exact ⟨rfl,⟨D,Hown.out,Hmap.out,Hat.out⟩,hb⟩
theorem word_any (s : ByteArray) (hs : s.size ≤ maxLen) (w : World) (h : Tab w) :
  Calls Tryd.prog 34 #[.string s] w fun e w'=>e = .returned (.bool (wordB s)) ∧ Below w.heap.size w w':=by
 have hkey : keyOf Tryd.prog 9 (.string s) = some (.string s.data.toList):=keyOf_string_mk Tryd.underlying9 hs
 have Hkey:=Lib.hid hkey
 have Hw:=Lib.hid (words_any Unit w h)
 clear hkey h
 go_enter Tryd.func34,Tryd.ntmps34
 go_wp2_with fail
 refine Hw.out.mono ?_
 rintro e w1 ⟨rfl,⟨D,hown,hmap,hat⟩,hb⟩
 have Hown:=Lib.hid hown
 have Hat:=Lib.hid (hat s.data.toList)
 clear hown hmap hat
 go_wp2_with (at_lookup; refine wpList_lookup_own_int _ rfl _ _ 97 rfl 9 3 .i64 words_law Tryd.underlying97 Tryd.underlying3 (words_zero _) w.heap.size 47 _ rfl Hown.out _ _ rfl Hkey.out ?_; intro c hat2 hwc)
 go_ret
 refine ⟨?_,hb⟩
 obtain ⟨c',h1,h2,h3,h4⟩:=Hat.out
 have hc : c = c':=by
  have:=hat2.symm.trans h1
  injection this with this
  injection this
 subst hc
 have h5 : decide (0 < c) = wordB s:=by
  unfold wordB
  rw [List.take_of_length_le (by simp [words_len])] at h4
  simpa using h4
 rw [← h5]
 rfl
end Go.Proofs.YtfiohepfohhibaaDoor
namespace Go.Proofs.YtfiohepfohhibaaDoor
open Go.RowKit
theorem named_any (p : Int → Bool) (K : FuncId) (C : Array Value) (s : ByteArray) (hs : s.size ≤ maxLen) (hK : ∀ args w,(callFunc K args).run Tryd.prog w = .ok (.enter K args) w)
  (hp : ∀ (b : Int) (w : World),Calls Tryd.prog K (#[.int .u8 b] ++ C) w fun e w'=>e = .returned (.bool (p b)) ∧ w = w') (w : World) (h : Tab w) :
  Calls Tryd.prog 54 #[.string s,.func (.func K) #[] C] w fun e w'=>e = .returned (.bool (namedB p s)) ∧ Below w.heap.size w w':=by
 have Hr:=Lib.hid (run_any partB 33 #[] s hs Tryd.call33 (fun b w=>part_any b w) w)
 have Hw:=Lib.hid (word_any s hs w h)
 have Hp:=Lib.hid hp
 have hrl:=runLen_le partB s.data.toList
 have hsl : s.data.toList.length = s.size:=by simp
 rw [hsl] at hrl
 unfold maxLen at hs
 clear hp h hsl
 by_cases h0 : 0 < s.size
 ·have hv:=Lib.hid (namedB_pos (p:=p) h0)
  have e0 : s.toList.isEmpty = false:=by
   rw [ByteArray.toList_eq]
   cases hl : s.data.toList with
   | nil =>
    have : s.data.toList.length = 0:=by rw [hl]; rfl
    have h2 : s.data.toList.length = s.size:=by simp
    omega
   | cons=>rfl
  have e1 : ¬ s.toList = []:=by intro h; rw [h] at e0; cases e0
  by_cases h16 : s.size ≤ 16
  ·generalize hrv : runLen partB s.data.toList = R at *
   have Hrv:=Lib.hid hrv
   clear hrv
   go_enter Tryd.func54,Tryd.ntmps54
   go_wp2_with fail
   refine (Hp.out _ _).mono ?_
   rintro e w1 ⟨rfl,rfl⟩
   go_wp2_with (first
    | (go_at_call 29; refine Hr.out.mono ?_; rintro e w1 ⟨rfl,rfl⟩)
    | (go_at_call 34; refine Hw.out.mono ?_; rintro e w1 ⟨rfl,hb⟩))
   ·have hp1 : p (s[0].toNat) = true:=by assumption
    have hr1 : (R : Int) = s.size:=by assumption
    have hr2 : R = s.size:=by omega
    go_ret
    exact ⟨by rw [hv.out,hp1,hr2]; simp [h16],hb⟩
   ·have hp1 : p (s[0].toNat) = true:=by assumption
    have hr1 : ¬ (R : Int) = s.size:=by assumption
    have hr2 : (R == s.size) = false:=by simp; omega
    go_ret
    exact ⟨by rw [hv.out,hp1,hr2]; simp,Below.refl _ _⟩
   ·have hp1 : p (s[0].toNat) = false:=by simpa using (show ¬ p (s[0].toNat) = true by assumption)
    go_ret
    exact ⟨by rw [hv.out,hp1]; simp,Below.refl _ _⟩
  ·go_enter Tryd.func54,Tryd.ntmps54
   go_wp2
   go_ret
   exact ⟨by rw [hv.out]; simp [h16],Below.refl _ _⟩
 ·have hv : Hid (namedB p s = false):=by show namedB p s = false; rw [namedB,dif_neg h0]
  have e1 : s.toList = []:=by
   rw [ByteArray.toList_eq]
   refine List.eq_nil_of_length_eq_zero ?_
   have h2 : s.data.toList.length = s.size:=by simp
   omega
  have e0 : s.toList.isEmpty = true:=by rw [e1]; rfl
  go_enter Tryd.func54,Tryd.ntmps54
  go_wp2
  go_ret
  exact ⟨by rw [hv.out]; rfl,Below.refl _ _⟩
theorem type_any (s : ByteArray) (hs : s.size ≤ maxLen) (w : World) (h : Tab w) :
  Calls Tryd.prog 36 #[.string s] w fun e w'=>e = .returned (.bool (typeB s)) ∧ Below w.heap.size w w':=by
 have Hn:=Lib.hid (named_any upperB 32 #[] s hs Tryd.call32 (fun b w=>upper_any b w) w h)
 clear h
 unfold typeB
 go_enter Tryd.func36,Tryd.ntmps36
 go_wp2_with (go_at_call 54; refine Hn.out.mono ?_; rintro e w1 ⟨rfl,hb⟩)
 go_ret
 exact ⟨rfl,hb⟩
end Go.Proofs.YtfiohepfohhibaaDoor
namespace Go.Proofs.YtfiohepfohhibaaDoor
open Go.RowKit
theorem sEq_ne {a b : ByteArray} (h : a ≠ b) : sEq a b = false:=by
 rw [sEq,beq_eq_false_iff_ne]
 exact fun h'=>h (toList_inj h')
theorem sEq_iff {a b : ByteArray} : sEq a b = true ↔ a = b:=by
 constructor
 ·intro h
  rcases Classical.em (a = b) with h' | h'
  ·exact h'
  ·rw [sEq_ne h'] at h; cases h
 ·rintro rfl; exact sEq_self a
theorem extract_list (s : ByteArray) (a b : Nat) : (s.extract a b).data.toList = (s.data.toList.take b).drop a:=by
 rw [ByteArray.data_extract]
 simp [List.drop_take]
theorem bytes_ext {a b : ByteArray} (h : a.data.toList = b.data.toList) : a = b:=by
 apply ByteArray.ext
 exact Array.ext' h
end Go.Proofs.YtfiohepfohhibaaDoor
namespace Go.Proofs.YtfiohepfohhibaaDoor
open Go.RowKit
theorem mapFind_nil (d : TypeDesc) (k : Value) (i : Nat) : mapFind d k [] i = some none:=rfl
theorem mapFind_str (s t : ByteArray) (v : AV) (es : List (Value × AV)) (i : Nat) : mapFind .string (.string s) ((.string t,v) :: es) i = if sEq s t = true then some (some (i,v)) else mapFind .string (.string s) es (i + 1):=by
 have h : Instr.sameNow .string (.string s) (.string t) = some (sEq s t):=by
  show some (s.data == t.data) = _
  congr 1
  rw [Bool.eq_iff_iff,sEq_iff,beq_iff_eq]
  exact ⟨fun h=>ByteArray.ext h,fun h=>by rw [h]⟩
 rw [mapFind,h]
 cases sEq s t <;> rfl
end Go.Proofs.YtfiohepfohhibaaDoor
