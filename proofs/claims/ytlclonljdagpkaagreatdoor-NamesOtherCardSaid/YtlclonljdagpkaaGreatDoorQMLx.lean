/- A part of the proof. The statement is proved in the claim's last text. -/
import Derived.Test.YtlclonljdagpkaaGreatDoorQMLk
import Derived.Test.YtlclonljdagpkaaGreatDoorRows
import Derived.Test.YtlclonljdagpkaaGreatDoorQMShelf
import Derived.Maps.Own
import Derived.Maps.OwnOps
import Derived.Lib.AppendIntMem
import Derived.Handy
import Derived.Test.YtlclonljdagpkaaGreatDoorQMLt
set_option linter.unusedVariables false
set_option linter.unusedSimpArgs false
set_option maxRecDepth 100000
set_option maxHeartbeats 32000000
namespace Go.Proofs.YtlclonljdagpkaaGreatDoor
open Go.RowKit
def zDh : List (List UInt8):=[[108,101,116],[105,102],[101,108,115,101],[119,104,105,108,101],[109,97,116,99,104],[115,99,111,112,101],[115,112,97,119,110],[108,111,99,107],[97,115],[99,104,97,110],[100,114,111,112],[102,110],[115,116,114,117,99,116],[101,110,117,109],[116,114,117,101],[102,97,108,115,101],[97,110,100],[111,114],[110,111,116],[105,110,116],[98,111,111,108],[117,110,105,116],[109,117,116],[98,111,120],[117,110,98,111,120],[99,101,108,108],[103,101,116],[115,101,116],[114,99],[97,114,99],[99,108,111,110,101],[109,117,116,101,120],[111,112,101,110],[97,116,111,109,105,99],[108,111,97,100],[115,116,111,114,101],[102,101,116,99,104],[115,101,110,100],[114,101,99,118],[66,111,120],[67,101,108,108],[82,99],[65,114,99],[77,117,116,101,120],[65,116,111,109,105,99],[83,101,110,100,101,114],[82,101,99,101,105,118,101,114]]
theorem zPp : zDh.length = 47:=rfl
def zDP (b : Int) : Bool:=decide (97 <= b) && decide (b <= 122)
def zDQ (b : Int) : Bool:=decide (65 <= b) && decide (b <= 90)
def zAW (b : Int) : Bool:=decide (48 <= b) && decide (b <= 57)
def zCG (b : Int) : Bool:=zDP b || zDQ b || zAW b || b == 95
def zAH (p : Int -> Bool) : List UInt8 -> Nat
 | []=>0
 | b :: l=>if p b.toNat then zAH p l + 1 else 0
theorem zGq {p : Int -> Bool} : ∀ {l : List UInt8} {q : Nat},zHa (fun b=>p b.toNat = true) l q -> q <= l.length -> (∀ h : q < l.length,p (l[q].toNat) = false) -> zAH p l = q
 | [],q,_,hq,_=>by simp at hq; subst hq; rfl
 | b :: l,0,_,_,h=>by
  have:=h (by simp)
  simp at this
  simp [zAH,this]
 | b :: l,q + 1,h,hq,h'=>by
  have h0 : p b.toNat = true:=h 0 (by simp) (by omega)
  rw [zAH,if_pos h0,zGq (q:=q) (fun i hi hlt=>h (i + 1) (by simpa using hi) (by omega)) (by simpa using hq) (fun hl=>h' (by simpa using hl))]
def zIn (s : ByteArray) : Bool:=decide (s.data.toList ∈ zDh)
def zFn (p : Int -> Bool) (s : ByteArray) : Bool :=
 if h : 0 < s.size then decide (s.size <= 16) && (p (s[0].toNat) && ((zAH zCG s.data.toList == s.size) && !zIn s)) else false
theorem zNO {p : Int -> Bool} {s : ByteArray} (h : 0 < s.size) : zFn p s = (decide (s.size <= 16) && (p (s[0].toNat) && ((zAH zCG s.data.toList == s.size) && !zIn s))):=by rw [zFn,dif_pos h]
theorem zCh (p : Int -> Bool) : ∀ l : List UInt8,zAH p l <= l.length
 | []=>Nat.le_refl _
 | b :: l=>by have:=zCh p l; simp only [zAH]; split <;> simp <;> omega
def zBg (s : ByteArray) : Bool:=zFn zDQ s
def zAX (s : ByteArray) : Bool:=zFn zDP s
end Go.Proofs.YtlclonljdagpkaaGreatDoor
namespace Go.Proofs.YtlclonljdagpkaaGreatDoor
open Go.RowKit Go.WideMaps Go.Maps
def zF6 : ByteArray:=⟨[108,101,116,32,105,102,32,101,108,115,101,32,119,104,105,108,101,32,109,97,116,99,104,32,115,99,111,112,101,32,115,112,97,119,110,32,108,111,99,107,32,97,115,32,99,104,97,110,32,100,114,111,112,32,102,110,32,115,116,114,117,99,116,32,101,110,117,109,32,116,114,117,101,32,102,97,108,115,101,32,97,110,100,32,111,114,32,110,111,116,32,105,110,116,32,98,111,111,108,32,117,110,105,116,32,109,117,116,32,98,111,120,32,117,110,98,111,120,32,99,101,108,108,32,103,101,116,32,115,101,116,32,114,99,32,97,114,99,32,99,108,111,110,101,32,109,117,116,101,120,32,111,112,101,110,32,97,116,111,109,105,99,32,108,111,97,100,32,115,116,111,114,101,32,102,101,116,99,104,32,115,101,110,100,32,114,101,99,118,32,66,111,120,32,67,101,108,108,32,82,99,32,65,114,99,32,77,117,116,101,120,32,65,116,111,109,105,99,32,83,101,110,100,101,114,32,82,101,99,101,105,118,101,114].toArray⟩
abbrev Tab (w : World) : Prop:=Lib.TabIs Tryz.prog w "strings.asciiSpace" .u8 Lib.asciiSpaceTab
theorem Tab.below {w w' : World} (h : Tab w) (hb : Below w.heap.size w w') : Tab w':=Lib.tabBelow_of_tabIs h w' hb
theorem zJx (w : World) (h : Tab w) : Calls Tryz.prog 229 #[.string zF6] w fun e w' =>
  e = .returned (.slice (some ⟨w.heap.size,0,none⟩) 47 47) /\ w' = w.alloc (.cells (zDh.map fun l=>Value.string ⟨l.toArray⟩).toArray 9):=by
 have e : Lib.fields zF6.data.toList = zDh:=by kernel_rfl
 have h1:=Tryz.strings_Fields zF6 w (of_decide_eq_true (by kernel_rfl)) (fun j b hb=>by
  have h2 : zF6.data.toList.all (fun b=>decide (b.toNat < 128)) = true:=by kernel_rfl
  exact of_decide_eq_true (List.all_eq_true.1 h2 b (List.mem_of_getElem? hb))) h
 rw [e] at h1;exact h1
theorem zGr (b : Int) (w : World) : Calls Tryz.prog 148 #[.int .u8 b] w fun e w'=>e = .returned (.bool (zDP b)) /\ w = w':=by
 have hv : zDP b = (decide (97 <= b) && decide (b <= 122)):=rfl
 generalize zDP b = c at *
 go_enter Tryz.func148,Tryz.ntmps148
 go_wp2
 all_goals go_ret
 all_goals exact ⟨by first | (simp [*]; done) | (simp [*]; omega),rfl⟩
theorem zGs (b : Int) (w : World) : Calls Tryz.prog 149 #[.int .u8 b] w fun e w'=>e = .returned (.bool (zDQ b)) /\ w = w':=by
 have hv : zDQ b = (decide (65 <= b) && decide (b <= 90)):=rfl
 generalize zDQ b = c at *
 go_enter Tryz.func149,Tryz.ntmps149
 go_wp2
 all_goals go_ret
 all_goals exact ⟨by first | (simp [*]; done) | (simp [*]; omega),rfl⟩
theorem zGt (b : Int) (w : World) : Calls Tryz.prog 152 #[.int .u8 b] w fun e w'=>e = .returned (.bool (zAW b)) /\ w = w':=by
 have hv : zAW b = (decide (48 <= b) && decide (b <= 57)):=rfl
 generalize zAW b = c at *
 go_enter Tryz.func152,Tryz.ntmps152
 go_wp2
 all_goals go_ret
 all_goals exact ⟨by first | (simp [*]; done) | (simp [*]; omega),rfl⟩
theorem zME (b : Int) (w : World) : Calls Tryz.prog 150 #[.int .u8 b] w fun e w'=>e = .returned (.bool (zCG b)) /\ w = w':=by
 have hv : zCG b = (zDP b || zDQ b || zAW b || b == 95):=rfl
 have H1:=Lib.hid (zGr b)
 have H2:=Lib.hid (zGs b)
 have H3:=Lib.hid (zGt b)
 generalize zCG b = c at *
 generalize zDP b = c1 at *
 generalize zDQ b = c2 at *
 generalize zAW b = c3 at *
 go_enter Tryz.func150,Tryz.ntmps150
 go_wp2_with (first
  | (go_at_call 148; refine (H1.out _).mono ?_; rintro e w1 ⟨rfl,rfl⟩)
  | (go_at_call 149; refine (H2.out _).mono ?_; rintro e w1 ⟨rfl,rfl⟩)
  | (go_at_call 152; refine (H3.out _).mono ?_; rintro e w1 ⟨rfl,rfl⟩))
 all_goals go_ret
 all_goals exact ⟨by first | (simp [*]; done) | (simp [*]; omega),rfl⟩
theorem zPq (p : Int -> Bool) (K : FuncId) (C : Array Value) (s : ByteArray) (hs : s.size <= maxLen) (hK : ∀ args w,(callFunc K args).run Tryz.prog w = .ok (.enter K args) w)
  (hp : ∀ (b : Int) (w : World),Calls Tryz.prog K (#[.int .u8 b] ++ C) w fun e w'=>e = .returned (.bool (p b)) /\ w = w') (w : World) :
  Calls Tryz.prog 146 #[.string s,.func (.func K) #[] C] w fun e w'=>e = .returned (.int .i64 (zAH p s.data.toList)) /\ w = w':=by
 unfold maxLen at hs
 have Hp:=Lib.hid hp
 clear hp
 go_enter Tryz.func146,Tryz.ntmps146
 go_wp2
 go_loop [5] (fun i=>∃ q : Nat,q <= s.size /\ i = .int .i64 q /\ zHa (fun b=>p b.toNat = true) s.data.toList q)  (fun i=>s.size - (intOf i).toNat)
 case atStart=>exact ⟨0,Nat.zero_le _,rfl,zHa.zero _ _⟩
 case round =>
  obtain ⟨q,hq,rfl,hall⟩:=hrel
  have hlen : s.data.toList.length = s.size:=by simp
  have Hlen:=Lib.hid hlen
  clear hlen
  by_cases hlt : q < s.size
  .have hlt' : q < s.data.toList.length:=by rw [Hlen.out]; exact hlt
   have hsp : s[q] = s.data.toList[q]:=rfl
   have Hsp:=Lib.hid hsp
   clear hsp
   go_wp2_with fail
   refine (Hp.out _ _).mono ?_
   rintro e w1 ⟨rfl,rfl⟩
   go_wp2
   .have hn : p (s[q].toNat) = true:=by assumption
    go_round
    case rel=>exact ⟨q + 1,by omega,by go_num,hall.succ hlt' (by rw [<- Hsp.out]; exact hn)⟩
    case measure=>simp [intOf]; omega
   .have hn : p (s[q].toNat) = false:=by assumption
    go_ret
    exact ⟨by rw [zGq hall (by rw [Hlen.out]; omega) (fun h=>by rw [<- Hsp.out]; exact hn)]; rfl,rfl⟩
  .go_wp2
   go_ret
   exact ⟨by rw [zGq hall (by rw [Hlen.out]; omega) (fun h=>by rw [Hlen.out] at h; omega)]; rfl,rfl⟩
theorem zJy : Keyed Tryz.prog 9:=string_keyed Tryz.underlying9
theorem zNP (w : World) : (zeroValue 3).run Tryz.prog w = .ok (.int .i64 0) w:=by kernel_rfl
theorem zK1 : zDh.all (fun l=>decide (l.length <= 100)) = true:=by decide
def zMF (H : Type) (w : World) (B q : Nat) : Prop :=
 ∃ D : DataW H,w.ownsMap Tryz.prog 9 (plainElem Tryz.prog 3) B q D /\ IsMap D /\ ∀ s : List UInt8,∃ c : Int,D.atKey (.string s) (.lit (.int .i64 0)) = .lit (.int .i64 c) /\ 0 <= c /\ c <= 1000 /\ (0 < c ↔ s ∈ zDh.take q)
theorem zPr (H : Type) (w : World) (h : Tab w) :
  Calls Tryz.prog 207 #[] w fun e w'=>e = .returned (.map (some w.heap.size)) /\ zMF H w' w.heap.size 47 /\ Below w.heap.size w w':=by
 have hmm:=@run_makeMap Tryz.prog
 have Hf:=Lib.hid (zJx (w.alloc (.map #[] 0)) (h.below ((Below.refl _ _).alloc (Nat.le_refl _) _)))
 clear h
 go_enter Tryz.func207,Tryz.ntmps207
 go_wp2_with (go_at_call 229; refine Hf.out.mono ?_; rintro e w1 ⟨rfl,rfl⟩)
 go_loopw [7] (fun i wr=>∃ q : Nat,q <= 47 /\ i = .int .i64 q /\ zMF H wr w.heap.size q /\ Below w.heap.size w wr /\ wr.heap[w.heap.size + 1]? = some (.cells (zDh.map fun l=>Value.string ⟨l.toArray⟩).toArray 9))  (fun i _=>47 - (intOf i).toNat)
 case atStart =>
  refine ⟨0,by omega,rfl,⟨.map [],(World.ownsMap_made _ _ _ _).alloc _,⟨_,rfl⟩,fun s=>⟨0,rfl,by omega,by omega,by simp⟩⟩,((Below.refl _ _).alloc (Nat.le_refl _) _).alloc (by simp) _,by simpa using zCy (w.alloc (.map #[] 0)) _⟩
 case round =>
  obtain ⟨q,hq,rfl,⟨D,hown,hmap,hat⟩,hb,hblk⟩:=hrel
  have hz : w.heap.size + 1 < wr.heap.size:=zEo hblk
  have Hblk:=Lib.hid hblk
  have Hat:=Lib.hid hat
  have Hown:=Lib.hid hown
  have Hmap:=Lib.hid hmap
  clear hat hmap hown
  by_cases hlt : q < 47
  .have hwl : q < zDh.length:=hlt
   have c0 : wr.cell? ⟨w.heap.size + 1,q,none⟩ = some (.string ⟨(zDh[q]'hwl).toArray⟩):=by
    rw [zBB hblk];simp [List.getElem?_eq_getElem hwl]
   have hsm : (zDh[q]'hwl).length <= 100:=of_decide_eq_true (List.all_eq_true.1 zK1 _ (List.getElem_mem hwl))
   have hkey : keyOf Tryz.prog 9 (.string ⟨(zDh[q]'hwl).toArray⟩) = some (.string (zDh[q]'hwl)):=keyOf_string_mk Tryz.underlying9 (by show (zDh[q]'hwl).toArray.size <= maxLen; simp [maxLen]; omega)
   have Hkey:=Lib.hid hkey
   have htk : zDh.take (q + 1) = zDh.take q ++ [zDh[q]'hwl]:=by rw [List.take_add_one,List.getElem?_eq_getElem hwl]; rfl
   have Htk:=Lib.hid htk
   clear hblk hkey htk
   generalize zDh[q]'hwl = k at *
   go_wp2_with (at_mapUpdate; refine wpList_mapUpdate_own _ rfl _ _ _ 178 rfl 9 3 zJy Tryz.underlying178 _ w.heap.size q _ rfl Hown.out (by unfold maxLen; omega) _ _ _ rfl rfl Hkey.out _ [] (plainElem_int Tryz.underlying3 (WalkArith.wf_i64 (by omega))) ?_; intro w1 hown1 hgrow1)
   refine ⟨⟨q + 1,by omega,by go_num,⟨_,hown1,Hmap.out.put _ _,fun s=>?_⟩,hb.grown hgrow1 hb.size (fun j hj=>by cases hj; exact Nat.le_refl _),(hgrow1.block _ hz (by simp)).trans Hblk.out⟩,by simp [intOf]; omega⟩
   by_cases hs : s = k
   .subst hs
    exact ⟨q + 1,atKey_put_same Hmap.out (by simp [WideAt.IsKeyLit]) _ _,by omega,by omega,by rw [Htk.out]; simp⟩
   .obtain ⟨c,h1,h2,h3,h4⟩:=Hat.out s
    exact ⟨c,(atKey_put_other (by simpa using hs) _ _).trans h1,h2,h3,by rw [Htk.out,h4]; simp [hs]⟩
  .obtain rfl : q = 47:=by omega
   clear hblk
   go_wp2
   go_ret
   exact ⟨rfl,⟨D,Hown.out,Hmap.out,Hat.out⟩,hb⟩
theorem zMG (s : ByteArray) (hs : s.size <= maxLen) (w : World) (h : Tab w) :
  Calls Tryz.prog 151 #[.string s] w fun e w'=>e = .returned (.bool (zIn s)) /\ Below w.heap.size w w':=by
 have hkey : keyOf Tryz.prog 9 (.string s) = some (.string s.data.toList):=keyOf_string_mk Tryz.underlying9 hs
 have Hkey:=Lib.hid hkey
 have Hw:=Lib.hid (zPr Unit w h)
 clear hkey h
 go_enter Tryz.func151,Tryz.ntmps151
 go_wp2_with fail
 refine Hw.out.mono ?_
 rintro e w1 ⟨rfl,⟨D,hown,hmap,hat⟩,hb⟩
 have Hown:=Lib.hid hown
 have Hat:=Lib.hid (hat s.data.toList)
 clear hown hmap hat
 go_wp2_with (at_lookup; refine wpList_lookup_own_int _ rfl _ _ 178 rfl 9 3 .i64 zJy Tryz.underlying178 Tryz.underlying3 (zNP _) w.heap.size 47 _ rfl Hown.out _ _ rfl Hkey.out ?_; intro c hat2 hwc)
 go_ret
 refine ⟨?_,hb⟩
 obtain ⟨c',h1,h2,h3,h4⟩:=Hat.out
 have hc : c = c':=by
  have:=hat2.symm.trans h1
  injection this with this
  injection this
 subst hc
 have h5 : decide (0 < c) = zIn s:=by
  unfold zIn;rw [List.take_of_length_le (by simp [zPp])] at h4
  simpa using h4
 rw [<- h5];rfl
end Go.Proofs.YtlclonljdagpkaaGreatDoor
namespace Go.Proofs.YtlclonljdagpkaaGreatDoor
open Go.RowKit
theorem zJz (p : Int -> Bool) (K : FuncId) (C : Array Value) (s : ByteArray) (hs : s.size <= maxLen) (hK : ∀ args w,(callFunc K args).run Tryz.prog w = .ok (.enter K args) w)
  (hp : ∀ (b : Int) (w : World),Calls Tryz.prog K (#[.int .u8 b] ++ C) w fun e w'=>e = .returned (.bool (p b)) /\ w = w') (w : World) (h : Tab w) :
  Calls Tryz.prog 167 #[.string s,.func (.func K) #[] C] w fun e w'=>e = .returned (.bool (zFn p s)) /\ Below w.heap.size w w':=by
 have Hr:=Lib.hid (zPq zCG 150 #[] s hs Tryz.call150 (fun b w=>zME b w) w)
 have Hw:=Lib.hid (zMG s hs w h)
 have Hp:=Lib.hid hp
 have hrl:=zCh zCG s.data.toList
 have hsl : s.data.toList.length = s.size:=by simp
 rw [hsl] at hrl;unfold maxLen at hs;clear hp h hsl
 by_cases h0 : 0 < s.size
 .have hv:=Lib.hid (zNO (p:=p) h0)
  have e0 : s.toList.isEmpty = false:=by
   rw [ByteArray.toList_eq]
   cases hl : s.data.toList with
   | nil =>
    have : s.data.toList.length = 0:=by rw [hl]; rfl
    have h2 : s.data.toList.length = s.size:=by simp
    omega
   | cons=>rfl
  have e1 : ¬ s.toList = []:=by intro h; rw [h] at e0; cases e0
  by_cases h16 : s.size <= 16
  .generalize hrv : zAH zCG s.data.toList = R at *
   have Hrv:=Lib.hid hrv
   clear hrv
   go_enter Tryz.func167,Tryz.ntmps167
   go_wp2_with fail
   refine (Hp.out _ _).mono ?_
   rintro e w1 ⟨rfl,rfl⟩
   go_wp2_with (first
    | (go_at_call 146; refine Hr.out.mono ?_; rintro e w1 ⟨rfl,rfl⟩)
    | (go_at_call 151; refine Hw.out.mono ?_; rintro e w1 ⟨rfl,hb⟩))
   .have hp1 : p (s[0].toNat) = true:=by assumption
    have hr1 : (R : Int) = s.size:=by assumption
    have hr2 : R = s.size:=by omega
    go_ret
    exact ⟨by rw [hv.out,hp1,hr2]; simp [h16],hb⟩
   .have hp1 : p (s[0].toNat) = true:=by assumption
    have hr1 : ¬ (R : Int) = s.size:=by assumption
    have hr2 : (R == s.size) = false:=by simp; omega
    go_ret
    exact ⟨by rw [hv.out,hp1,hr2]; simp,Below.refl _ _⟩
   .have hp1 : p (s[0].toNat) = false:=by simpa using (show ¬ p (s[0].toNat) = true by assumption)
    go_ret
    exact ⟨by rw [hv.out,hp1]; simp,Below.refl _ _⟩
  .go_enter Tryz.func167,Tryz.ntmps167
   go_wp2
   go_ret
   exact ⟨by rw [hv.out]; simp [h16],Below.refl _ _⟩
 .have hv : Hid (zFn p s = false):=by show zFn p s = false; rw [zFn,dif_neg h0]
  have e1 : s.toList = []:=by
   rw [ByteArray.toList_eq];refine List.eq_nil_of_length_eq_zero ?_
   have h2 : s.data.toList.length = s.size:=by simp
   omega
  have e0 : s.toList.isEmpty = true:=by rw [e1]; rfl
  go_enter Tryz.func167,Tryz.ntmps167
  go_wp2
  go_ret
  exact ⟨by rw [hv.out]; rfl,Below.refl _ _⟩
theorem zSk (s : ByteArray) (hs : s.size <= maxLen) (w : World) (h : Tab w) :
  Calls Tryz.prog 102 #[.string s] w fun e w'=>e = .returned (.bool (zBg s)) /\ Below w.heap.size w w':=by
 have Hn:=Lib.hid (zJz zDQ 149 #[] s hs Tryz.call149 (fun b w=>zGs b w) w h)
 clear h;unfold zBg
 go_enter Tryz.func102,Tryz.ntmps102
 go_wp2_with (go_at_call 167; refine Hn.out.mono ?_; rintro e w1 ⟨rfl,hb⟩)
 go_ret
 exact ⟨rfl,hb⟩
end Go.Proofs.YtlclonljdagpkaaGreatDoor
namespace Go.Proofs.YtlclonljdagpkaaGreatDoor
open Go.RowKit
end Go.Proofs.YtlclonljdagpkaaGreatDoor
namespace Go.Proofs.YtlclonljdagpkaaGreatDoor
open Go.RowKit
theorem zBh {a b : ByteArray} (h : a ≠ b) : sEq a b = false:=by
 rw [sEq,beq_eq_false_iff_ne];exact fun h'=>h (zM8 h')
theorem zAw {a b : ByteArray} : sEq a b = true ↔ a = b:=by
 constructor
 .intro h
  rcases Classical.em (a = b) with h' | h'
  .exact h'
  .rw [zBh h'] at h; cases h
 .rintro rfl; exact sEq_self a
theorem zBa (s : ByteArray) (a b : Nat) : (s.extract a b).data.toList = (s.data.toList.take b).drop a:=by
 rw [ByteArray.data_extract];simp [List.drop_take]
theorem zJ0 {a b : ByteArray} (h : a.data.toList = b.data.toList) : a = b:=by
 apply ByteArray.ext
 exact Array.ext' h
end Go.Proofs.YtlclonljdagpkaaGreatDoor
namespace Go.Proofs.YtlclonljdagpkaaGreatDoor
open Go.RowKit
theorem zCH (d : TypeDesc) (k : Value) (i : Nat) : zAU d k [] i = some none:=rfl
theorem zi (s t : ByteArray) (v : AV) (es : List (Value × AV)) (i : Nat) : zAU .string (.string s) ((.string t,v) :: es) i = if sEq s t = true then some (some (i,v)) else zAU .string (.string s) es (i + 1):=by
 have h : Instr.sameNow .string (.string s) (.string t) = some (sEq s t):=by
  show some (s.data == t.data) = _
  congr 1
  rw [Bool.eq_iff_iff,zAw,beq_iff_eq];exact ⟨fun h=>ByteArray.ext h,fun h=>by rw [h]⟩
 rw [zAU,h];cases sEq s t <;> rfl
end Go.Proofs.YtlclonljdagpkaaGreatDoor
