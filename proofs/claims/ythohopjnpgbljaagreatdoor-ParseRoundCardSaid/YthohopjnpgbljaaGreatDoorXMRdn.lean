/- A part of the proof. The statement is proved in the claim's last text. -/
import Derived.Test.YthohopjnpgbljaaGreatDoorXMRdj
import Derived.Test.YthohopjnpgbljaaGreatDoorXMPt
set_option linter.unusedVariables false
set_option linter.unusedSimpArgs false
set_option maxRecDepth 100000
set_option maxHeartbeats 32000000
namespace Go.Proofs.YthohopjnpgbljaaGreatDoor
open Go.RowKit
section
variable {l : List Tok} {s : St} {n : Nat} {r : List ByteArray} {s0 : RS}
end
end Go.Proofs.YthohopjnpgbljaaGreatDoor
namespace Go.Proofs.YthohopjnpgbljaaGreatDoor
open Go.RowKit
section
variable {l : List Tok} {s : St} {n : Nat} {r : List ByteArray} {s0 : RS}
end
end Go.Proofs.YthohopjnpgbljaaGreatDoor
namespace Go.Proofs.YthohopjnpgbljaaGreatDoor
open Go.RowKit
theorem expr_step {l : List Tok} (hk : Kinds l) {e : Ex} (hw : ∃ d,e.whole d = true) {n : Nat} (hn : 11 * e.tk.length + 20 ≤ n) {q : List ByteArray} (hq : ∀ a b,q = a :: b → sEq a (⟨#[61]⟩ : ByteArray) = false ∧ sEq a (⟨#[46]⟩ : ByteArray) = false) {s0 : RS} (h0 : AtR l s0 (e.tk ++ q)) : stepQ l n (strongQ l n 6) (innerQ l n []) s0 = some (none,s0):=by
 obtain ⟨t,ts,ht,hh⟩:=ex_head e hw
 have h00 : AtR l s0 (t :: (ts ++ q)):=by rw [ht] at h0; exact h0
 obtain ⟨x,hx,hxt,hxm⟩:=h00.get
 rw [step_none h00 (no_start hh.sort)]
 unfold assignQ
 rw [if_neg (by rw [h0.ok]; simp),hx]
 simp only
 rw [hk x hxm,hxt]
 by_cases hkt : kindT t = 2
 ·rcases ex_place e hw t ts ht hkt with ⟨us,h5⟩ | ⟨pl,rest,q1,q2,q3,q4⟩
  ·rw [h5] at h00
   have h01 : AtR l s0 (t :: (⟨#[40]⟩ : ByteArray) :: (us ++ q)):=h00
   rw [if_neg (fun hc=>by rw [h01.is1,sEq_self] at hc; exact absurd hc.2 (by simp))]
  ·by_cases hi : isP l s0 (⟨#[40]⟩ : ByteArray) 1 = false
   ·rw [if_pos ⟨hkt,hi⟩]
    have hlen:=congrArg List.length q2
    rw [List.length_append] at hlen
    have hpl:=place_len pl
    rw [q2] at h0
    have h01 : AtR l s0 (pl.tk ++ (rest ++ q)):=by
     have:=h0
     simpa [List.append_assoc] using this
    have hhead : ∀ a b,(rest ++ q) = a :: b → sEq a (⟨#[61]⟩ : ByteArray) = false ∧ sEq a (⟨#[46]⟩ : ByteArray) = false:=fun a b he=>by
     cases rest with
     | nil=>exact hq a b he
     | cons c cs=>cases he; exact ⟨(q4 _ _ rfl).1,(q4 _ _ rfl).2.1⟩
    obtain ⟨y,s1,e1,e2,e3,e4⟩:=place_rd hk q1 (fun a b he=>(hhead a b he).2) (n:=n) (by omega) s0 h01
    rw [e1]
    simp only
    have hne : isP l s1 (⟨#[61]⟩ : ByteArray) 0 = false:=by
     generalize (rest ++ q) = q at *
     cases q with
     | nil=>exact e2.is_nil _ _
     | cons a b=>rw [e2.is]; exact (hhead a b rfl).1
    rw [if_neg (fun hc=>by rw [hne] at hc; exact absurd hc.2 (by simp))]
   ·rw [if_neg (fun hc=>hi hc.2)]
 ·rw [if_neg (fun hc=>hkt hc.1)]
end Go.Proofs.YthohopjnpgbljaaGreatDoor
namespace Go.Proofs.YthohopjnpgbljaaGreatDoor
open Go.RowKit
end Go.Proofs.YthohopjnpgbljaaGreatDoor
namespace Go.Proofs.YthohopjnpgbljaaGreatDoor
open Go.RowKit
theorem first_not {t : ByteArray} {b : UInt8} {L : List UInt8} (hL : t.data.toList = b :: L) (hb : (lowerB b.toNat || upperB b.toNat) = false) : wordB t = false ∧ nameB t = false ∧ typeB t = false:=by
 rw [Bool.or_eq_false_iff] at hb
 have h0 : ∀ (hs : 0 < t.size),t[0].toNat = b.toNat:=fun hs=>by
  have : t[0] = b:=by
   have e : t.data.toList[0]? = some b:=by rw [hL]; rfl
   have e2 : t.data.toList[0]? = some t[0]:=by
    rw [List.getElem?_eq_getElem (by simpa using hs)]; rfl
   rw [e] at e2
   exact (Option.some.inj e2).symm
  rw [this]
 refine ⟨?_,?_,?_⟩
 ·unfold wordB
  rw [decide_eq_false_iff_not,hL]
  intro hm
  have h1 : ∀ w ∈ words,(lowerB ((w.headD 0).toNat : Int) || upperB ((w.headD 0).toNat : Int)) = true:=by decide
  have h2 : (lowerB (b.toNat : Int) || upperB (b.toNat : Int)) = true:=h1 _ hm
  rw [hb.1,hb.2] at h2
  cases h2
 ·unfold nameB namedB
  split
  ·rename_i hs
   rw [h0 hs,hb.1]; simp
  ·rfl
 ·unfold typeB namedB
  split
  ·rename_i hs
   rw [h0 hs,hb.2]; simp
  ·rfl
def stopB (c : UInt8) : Bool:=!partB c.toNat && (!digitB c.toNat && (!(c == 61) && !(c == 62)))
theorem one_kind {t : ByteArray} (h : goodB t = true) {c : UInt8} (hc : stopB c = true) (r : List UInt8) : oneF (t.data.toList ++ c :: r) = some (kindT t,t.size):=by
 unfold stopB at hc
 simp only [Bool.and_eq_true,Bool.not_eq_true'] at hc
 obtain ⟨hc1,hc2,hc3,hc4⟩:=hc
 have hlen : t.data.toList.length = t.size:=by simp
 have htk:=text_take t (c :: r)
 have h1:=runLen_app hc1 r t.data.toList
 have h2:=runLen_app hc2 r t.data.toList
 have htk2 : (t.data.toList ++ c :: r).take t.size = t.data.toList:=by rw [← hlen,List.take_left]
 unfold goodB at h
 split at h
 ·cases h
 rename_i b r' hl
 have hk:=first_not hl
 rw [hl] at h1 h2 htk htk2 hlen ⊢
 unfold oneF
 simp only [List.cons_append] at h1 h2 htk htk2 ⊢
 cases hlt : lowerB b.toNat || upperB b.toNat with
 | true =>
  rw [hlt,if_pos rfl] at h
  simp only [Bool.and_eq_true,beq_iff_eq] at h
  have e:=h1 h.1
  rw [if_pos rfl,e,hlen,htk]
  unfold kindT
  cases hw : wordB t with
  | true=>rw [if_pos rfl,if_pos rfl]
  | false =>
  cases hn : nameB t with
  | true=>rw [if_neg (by simp),if_pos rfl,if_neg (by simp),if_pos rfl]
  | false =>
  have ht : typeB t = true:=by simpa [hw,hn] using h.2
  rw [if_neg (by simp),if_neg (by simp),if_pos ht,if_neg (by simp),if_neg (by simp),if_pos ht]
 | false =>
  obtain ⟨kw,kn,kt⟩:=hk hlt
  have hkd : kindT t = if digitB b.toNat = true then 4 else 5:=by
   unfold kindT
   rw [kw,if_neg (by simp),kn,if_neg (by simp),kt,if_neg (by simp),hl]
  rw [hlt,if_neg (by simp)] at h
  rw [if_neg (by simp),hkd]
  cases hd : digitB b.toNat with
  | true =>
   rw [hd,if_pos rfl] at h
   simp only [Bool.and_eq_true,beq_iff_eq,decide_eq_true_eq] at h
   have e:=h2 h.1
   rw [if_pos rfl,e,hlen,htk2,if_pos h.2]
   rfl
  | false =>
   rw [hd,if_neg (by simp)] at h
   rw [if_neg (by simp)]
   have hs : signN (b :: (r' ++ c :: r)) = t.size:=by
    rw [← hlen]
    have hm : (b :: r') ∈ signsT:=by simpa using h
    have c1 : (61 == c) = false:=by
     cases hq : (61 == c) with
     | false=>rfl
     | true=>have:=beq_iff_eq.1 hq; subst this; simp at hc3
    have c2 : (62 == c) = false:=by
     cases hq : (62 == c) with
     | false=>rfl
     | true=>have:=beq_iff_eq.1 hq; subst this; simp at hc4
    simp only [signsT,signL,List.map_cons,List.map_nil,List.cons_append,List.nil_append,List.mem_cons,List.not_mem_nil,or_false,List.cons.injEq] at hm
    rcases hm with ⟨rfl,rfl⟩ | ⟨rfl,rfl⟩ | ⟨rfl,rfl⟩ | ⟨rfl,rfl⟩ | ⟨rfl,rfl⟩ | ⟨rfl,rfl⟩ | ⟨rfl,rfl⟩ | ⟨rfl,rfl⟩ | ⟨rfl,rfl⟩ | ⟨rfl,rfl⟩ | ⟨rfl,rfl⟩ | ⟨rfl,rfl⟩ | ⟨rfl,rfl⟩ | ⟨rfl,rfl⟩ | ⟨rfl,rfl⟩ | ⟨rfl,rfl⟩ | ⟨rfl,rfl⟩ | ⟨rfl,rfl⟩ | ⟨rfl,rfl⟩ | ⟨rfl,rfl⟩ <;> simp [signN,List.isPrefixOf,c1,c2,signL]
   have h0 : ¬ t.size = 0:=by rw [← hlen]; simp
   simp only [hs,if_neg h0]
   rfl
abbrev oP : ByteArray:=(⟨#[40]⟩ : ByteArray)
abbrev cP : ByteArray:=(⟨#[41]⟩ : ByteArray)
abbrev cB : ByteArray:=(⟨#[125]⟩ : ByteArray)
def bytesO : List (ByteArray × Option UInt8) → List UInt8
 | []=>[]
 | (t,some c) :: l=>t.data.toList ++ c :: bytesO l
 | (t,none) :: l=>t.data.toList ++ bytesO l
def OkL : List (ByteArray × Option UInt8) → Prop
 | []=>True
 | (t,some c) :: l=>goodB t = true ∧ endB c = true ∧ OkL l
 | (t,none) :: l=>(t = oP ∨ (goodB t = true ∧ ∃ o l',l = (cP,o) :: l') ∨ (t = cB ∧ l = [])) ∧ OkL l
theorem end_stop {c : UInt8} (h : endB c = true) : stopB c = true:=by
 rcases end_cases h with rfl | rfl <;> decide
theorem betw_O : ∀ (l : List (ByteArray × Option UInt8)),OkL l → ∀ f,betwF (f + 1) (bytesO l) = some 0
 | [],_,f=>rfl
 | (t,some c) :: l,h,f=>betw_good h.1 h.2.1 _ f
 | (t,none) :: l,h,f=>by
  rcases h.1 with h1 | ⟨h1,o,l',rfl⟩ | ⟨h1,rfl⟩
  ·subst h1
   show betwF (f + 1) (40 :: bytesO l) = _
   simp [betwF,spB]
  ·obtain ⟨b,r,hl,hs,h47⟩:=good_head h1
   have hb : ∃ q,bytesO ((t,none) :: (cP,o) :: l') = b :: (r ++ 41 :: q):=by
    cases o with
    | none=>exact ⟨bytesO l',by show t.data.toList ++ (cP.data.toList ++ bytesO l') = _; rw [hl]; rfl⟩
    | some c=>exact ⟨c :: bytesO l',by show t.data.toList ++ (cP.data.toList ++ c :: bytesO l') = _; rw [hl]; rfl⟩
   obtain ⟨q,hb⟩:=hb
   rw [hb]
   simp only [betwF,hs,Bool.false_eq_true,if_false]
   split
   ·rename_i r' heq2
    have e:=h47 rfl
    subst e
    simp at heq2
   ·rfl
  ·subst h1
   show betwF (f + 1) (125 :: []) = _
   simp [betwF,spB]
theorem lex_step {t : ByteArray} {X : List UInt8} {a f m : Nat} {ts : List Tok} (h1 : oneF (t.data.toList ++ X) = some (kindT t,t.size)) (hne : t.data.toList ++ X ≠ []) (h2 : betwF f X = some m) (h3 : lexF f (a + t.size + m) (X.drop m) = some ts) : lexF (f + 1) a (t.data.toList ++ X) = some (⟨kindT t,t,a⟩ :: ts):=by
 have hlen : t.data.toList.length = t.size:=by simp
 have hd : (t.data.toList ++ X).drop t.size = X:=by rw [← hlen,List.drop_left]
 have hd2 : (t.data.toList ++ X).drop (t.size + m) = X.drop m:=by rw [← List.drop_drop,hd]
 have htx:=text_take t X
 generalize hY : t.data.toList ++ X = Y at *
 cases Y with
 | nil=>exact absurd rfl hne
 | cons x Y=>simp only [lexF,h1,hd,h2,hd2,h3,htx,Option.map_some]
theorem lex_opt : ∀ (l : List (ByteArray × Option UInt8)) (a f : Nat),OkL l → ∃ ts,lexF (f + l.length + 3) a (bytesO l) = some ts ∧ ts.map Tok.text = l.map Prod.fst ∧ Kinds ts
 | [],a,f,h=>⟨[],rfl,rfl,fun x hx=>by cases hx⟩
 | (t,some c) :: l,a,f,⟨h1,h2,h3⟩=>by
  obtain ⟨ts,e,e2,e3⟩:=lex_opt l (a + t.size + 1) f h3
  have hb : betwF (f + l.length + 3) (c :: bytesO l) = some 1:=by
   have:=betw_O l h3 (f + l.length + 1)
   have hsp : spB c = true:=by rcases end_cases h2 with rfl | rfl <;> decide
   show betwF ((f + l.length + 1 + 1) + 1) _ = _
   simp only [betwF,hsp,if_true,this,Option.map_some]
  refine ⟨_,lex_step (f:=f + l.length + 3) (one_kind h1 (end_stop h2) (bytesO l)) (by simp) hb e,by rw [List.map_cons,e2]; rfl,fun x hx=>?_⟩
  rcases List.mem_cons.1 hx with rfl | hx
  ·rfl
  ·exact e3 x hx
 | (t,none) :: l,a,f,⟨h1,h3⟩=>by
  obtain ⟨ts,e,e2,e3⟩:=lex_opt l (a + t.size + 0) f h3
  have hb : betwF (f + l.length + 3) (bytesO l) = some 0:=betw_O l h3 (f + l.length + 2)
  have key : oneF (t.data.toList ++ bytesO l) = some (kindT t,t.size) ∧ t.data.toList ++ bytesO l ≠ []:=by
   rcases h1 with h1 | ⟨h1,o,l',rfl⟩ | ⟨h1,rfl⟩
   ·subst h1
    refine ⟨?_,by show (40 :: bytesO l) ≠ []; simp⟩
    show oneF (40 :: bytesO l) = some (5,1)
    simp [oneF,lowerB,upperB,digitB,signN,List.isPrefixOf,signL]
   ·have hq : ∃ q,bytesO ((cP,o) :: l') = 41 :: q:=by
     cases o with
     | none=>exact ⟨bytesO l',rfl⟩
     | some c=>exact ⟨c :: bytesO l',rfl⟩
    obtain ⟨q,hq⟩:=hq
    rw [hq]
    exact ⟨one_kind h1 (by decide) q,by simp⟩
   ·subst h1
    exact ⟨by kernel_rfl,by show (125 :: []) ≠ []; simp⟩
  refine ⟨_,lex_step (f:=f + l.length + 3) key.1 key.2 hb (by rw [List.drop_zero]; exact e),by rw [List.map_cons,e2]; rfl,fun x hx=>?_⟩
  rcases List.mem_cons.1 hx with rfl | hx
  ·rfl
  ·exact e3 x hx
end Go.Proofs.YthohopjnpgbljaaGreatDoor
namespace Go.Proofs.YthohopjnpgbljaaGreatDoor
open Go.RowKit
def parsTk (n : Nat) (tk : List ByteArray) : List ByteArray:=List.replicate n oP ++ (tk ++ List.replicate n cP)
theorem pars_succ (n : Nat) (tk : List ByteArray) : parsTk (n + 1) tk = (⟨#[40]⟩ : ByteArray) :: (parsTk n tk ++ [(⟨#[41]⟩ : ByteArray)]):=by
 unfold parsTk
 rw [List.replicate_succ,List.replicate_succ' (n:=n) (a:=cP)]
 simp [List.append_assoc]
theorem pars_len (n : Nat) (tk : List ByteArray) : (parsTk n tk).length = tk.length + 2 * n:=by
 unfold parsTk
 simp; omega
theorem pars_head {e : Ex} (hw : ∃ d,e.whole d = true) (n : Nat) : ∃ t ts,parsTk n e.tk = t :: ts ∧ ((t = (⟨#[40]⟩ : ByteArray) ∧ 0 < n) ∨ (ExHd e t ∧ n = 0)):=by
 cases n with
 | zero =>
  obtain ⟨t,ts,ht,hh⟩:=ex_head e hw
  exact ⟨t,ts,by unfold parsTk; simp [ht],.inr ⟨hh,rfl⟩⟩
 | succ n=>exact ⟨_,_,pars_succ n e.tk,.inl ⟨rfl,by omega⟩⟩
theorem pars_rd {l : List Tok} (hk : Kinds l) {e : Ex} (hw : ∃ d,e.whole d = true) (hb : Eb l e) : ∀ (n m : Nat),10 * (parsTk n e.tk).length + 6 ≤ m → ∀ r,okR 0 r → Rd l (strongQ l m 6) keyE (parsTk n e.tk) r (keyE e)
 | 0,m,hm,r,hr=>by
  have h0 : parsTk 0 e.tk = e.tk:=by unfold parsTk; simp
  rw [h0] at hm ⊢
  exact hb m hm r hr
 | n + 1,m,hm,r,hr=>by
  rw [pars_len] at hm
  obtain ⟨m0,rfl⟩ : ∃ m0,m = m0 + 1 + 6:=⟨m - 7,by omega⟩
  have h0:=pars_rd hk hw hb n m0 (by rw [pars_len]; omega) ((⟨#[41]⟩ : ByteArray) :: r) (okR_end 0 (by kernel_rfl))
  obtain ⟨t,ts,ht,hh⟩:=pars_head hw n
  have htc : sEq t (⟨#[41]⟩ : ByteArray) = false:=by
   rcases hh with ⟨rfl,_⟩ | ⟨hh,_⟩
   ·kernel_rfl
   ·exact hh.ne (by rw [show kindT (⟨#[41]⟩ : ByteArray) = 5 by kernel_rfl]; omega) (by kernel_rfl)
  rw [pars_succ]
  rw [ht] at h0 ⊢
  have h1:=paren_rd hk (n:=m0) htc h0
  have h2:=strong_0 (by kernel_rfl) h1
  exact strong_upTo (j:=0) 6 (m0 + 1) (by omega) (fun _ _ _ _=>by kernel_rfl) hr (by omega) h2
def roundTk (n : Nat) (tk : List ByteArray) : List ByteArray:=(⟨#[102,110]⟩ : ByteArray) :: (⟨#[102]⟩ : ByteArray) :: (⟨#[40]⟩ : ByteArray) :: (⟨#[41]⟩ : ByteArray) :: (⟨#[45,62]⟩ : ByteArray) :: (⟨#[105,110,116]⟩ : ByteArray) :: (⟨#[123]⟩ : ByteArray) :: (parsTk n tk ++ [(⟨#[125]⟩ : ByteArray)])
theorem round_rd {l : List Tok} (hk : Kinds l) {e : Ex} (hw : ∃ d,e.whole d = true) (hb : Eb l e) {n m : Nat} (hm : 11 * (roundTk n e.tk).length + 20 ≤ m) (f : Nat) (hf : 2 ≤ f) (hl : l.map Tok.text = roundTk n e.tk) : ∃ e' pos s1,itemsQ l m f [] ⟨0,false,false⟩ = some ([⟨3,(⟨#[102]⟩ : ByteArray),[],.mk 1 emS [],[],e',pos⟩],s1) ∧ s1.bad = false ∧ s1.full = false ∧ keyE e' = keyE e:=by
 obtain ⟨f,rfl⟩ : ∃ k,f = k + 2:=⟨f - 2,by omega⟩
 have hs : AtR l ⟨0,false,false⟩ (roundTk n e.tk):=⟨rfl,by rw [List.drop_zero]; exact hl⟩
 have hlen : (roundTk n e.tk).length = (parsTk n e.tk).length + 8:=by unfold roundTk; simp
 generalize hS : (⟨0,false,false⟩ : RS) = s at hs ⊢
 have hfull : s.full = false:=by rw [← hS]
 have h0 : AtR l s ((⟨#[102,110]⟩ : ByteArray) :: (⟨#[102]⟩ : ByteArray) :: (⟨#[40]⟩ : ByteArray) :: (⟨#[41]⟩ : ByteArray) :: (⟨#[45,62]⟩ : ByteArray) :: (⟨#[105,110,116]⟩ : ByteArray) :: (⟨#[123]⟩ : ByteArray) :: (parsTk n e.tk ++ (⟨#[125]⟩ : ByteArray) :: [])):=hs
 have kf : kindT (⟨#[102]⟩ : ByteArray) = 2:=by kernel_rfl
 have ki : kindT (⟨#[105,110,116]⟩ : ByteArray) = 1:=by kernel_rfl
 have h3:=h0.next.next.next
 have h5:=h3.next.next
 have h7:=h5.next.next
 obtain ⟨t,ts,ht,hh⟩:=pars_head hw n
 obtain ⟨m0,hm0⟩ : ∃ m0,m = m0 + 1:=⟨m - 1,by omega⟩
 obtain ⟨y,s1,e1,e2,e3,e4⟩:=pars_rd hk hw hb n m0 (by omega) ((⟨#[125]⟩ : ByteArray) :: []) (okR_end 0 (by kernel_rfl)) _ h7
 have hst : stepQ l m0 (strongQ l m0 6) (innerQ l m0 []) s.nx.nx.nx.nx.nx.nx.nx = some (none,s.nx.nx.nx.nx.nx.nx.nx):=by
  rcases hh with ⟨rfl,hn0⟩ | ⟨hh,rfl⟩
  ·rw [ht] at h7
   have h8 : AtR l s.nx.nx.nx.nx.nx.nx.nx ((⟨#[40]⟩ : ByteArray) :: (ts ++ (⟨#[125]⟩ : ByteArray) :: [])):=h7
   obtain ⟨x,hx,hxt,hxm⟩:=h8.get
   rw [step_none h8 (by kernel_rfl)]
   unfold assignQ
   rw [if_neg (by rw [h8.ok]; simp),hx]
   simp only
   rw [hk x hxm,hxt,show kindT (⟨#[40]⟩ : ByteArray) = 5 by kernel_rfl,if_neg (by omega)]
  ·have h9 : parsTk 0 e.tk = e.tk:=by unfold parsTk; simp
   rw [h9] at h7 hlen
   exact expr_step hk hw (by omega) (fun a b he=>by cases he; exact ⟨by kernel_rfl,by kernel_rfl⟩) h7
 have hbody : bodyQ l m [] s.nx.nx.nx.nx.nx.nx.nx = some (([],y),s1):=by
  rw [hm0,bodyQ,if_neg (by rw [h7.ok]; simp),hst]
  simp only
  rw [e1]
  simp only
  rw [e2.is,sEq_self,if_pos rfl]
 have hty : kindP l m s.nx.nx.nx.nx.nx = some (.mk 1 emS [],s.nx.nx.nx.nx.nx.nx):=by
  rw [hm0,kindP,h5.is,show sEq (⟨#[105,110,116]⟩ : ByteArray) (⟨#[38]⟩ : ByteArray) = false by kernel_rfl,if_neg (by simp),h5.hand hk,ki,if_neg (by decide),h5.takeT hk ki,show findK (⟨#[105,110,116]⟩ : ByteArray) wordK = some 1 by kernel_rfl]
  simp only
  rw [h5.takeP hk ki]
 have hls : listP l (fieldP l m) (⟨#[41]⟩ : ByteArray) m s.nx.nx.nx = some ([],s.nx.nx.nx.nx):=by
  unfold listP
  rw [h3.is,sEq_self,if_pos rfl,h3.may]
 have hitem : itemQ l m s = some (⟨3,(⟨#[102]⟩ : ByteArray),[],.mk 1 emS [],[],y,placeP l s⟩,s1.nx):=by
  have hns : isP l s (⟨#[115,116,114,117,99,116]⟩ : ByteArray) 0 = false:=by rw [h0.is]; kernel_rfl
  have hne : isP l s (⟨#[101,110,117,109]⟩ : ByteArray) 0 = false:=by rw [h0.is]; kernel_rfl
  unfold itemQ
  rw [hns,if_neg (by simp),hne,if_neg (by simp),h0.must,h0.next.takeP hk kf,h0.next.next.must,hls]
  simp only
  rw [h3.next.must,hty]
  simp only
  rw [h5.next.must,hbody]
  simp only
  rw [h0.next.takeT hk kf,e2.must]
 have hlt : s.at_ < l.length:=by
  obtain ⟨x,hx,_⟩:=h0.get
  exact (List.getElem?_eq_some_iff.1 hx).1
 have hend:=e2.next
 have hge : ¬ s1.nx.at_ < l.length:=by
  have h:=hend.gone 0
  rw [Nat.add_zero] at h
  have h2 : l.length ≤ s1.at_ + 1:=List.getElem?_eq_none_iff.1 h
  show ¬ s1.at_ + 1 < l.length
  omega
 refine ⟨y,placeP l s,s1.nx,?_,hend.ok,?_,e4⟩
 ·rw [itemsQ,if_pos ⟨hlt,h0.ok⟩,hitem]
  simp only
  rw [itemsQ,if_neg (fun hc=>hge hc.1)]
  rfl
 ·show s1.full = false
  rw [e3]
  exact hfull
end Go.Proofs.YthohopjnpgbljaaGreatDoor
namespace Go.Proofs.YthohopjnpgbljaaGreatDoor
open Go.RowKit
def preU : ByteArray:=(⟨#[102,110,32,102,32,40,32,41,32,45,62,32,105,110,116,32,123,32]⟩ : ByteArray)
def postU : ByteArray:=(⟨#[32,125]⟩ : ByteArray)
def repB (c : UInt8) (n : Nat) : ByteArray:=⟨(List.replicate n c).toArray⟩
def roundB (n : Nat) (t : ByteArray) : ByteArray:=preU ++ repB 40 n ++ t ++ repB 41 n ++ postU
def headP : List (ByteArray × Option UInt8):=[((⟨#[102,110]⟩ : ByteArray),some 32),((⟨#[102]⟩ : ByteArray),some 32),((⟨#[40]⟩ : ByteArray),some 32),((⟨#[41]⟩ : ByteArray),some 32),((⟨#[45,62]⟩ : ByteArray),some 32),((⟨#[105,110,116]⟩ : ByteArray),some 32),((⟨#[123]⟩ : ByteArray),some 32)]
def endsO : List ByteArray → Option UInt8 → List (ByteArray × Option UInt8)
 | [],_=>[]
 | [t],o=>[(t,o)]
 | t :: u :: l,o=>(t,some 32) :: endsO (u :: l) o
def clP : Nat → List (ByteArray × Option UInt8)
 | 0=>[]
 | 1=>[(cP,some 32)]
 | n + 2=>(cP,none) :: clP (n + 1)
def sepO (n : Nat) : Option UInt8:=if n = 0 then some 32 else none
def roundL (n : Nat) (tk : List ByteArray) : List (ByteArray × Option UInt8):=headP ++ (List.replicate n (oP,none) ++ (endsO tk (sepO n) ++ (clP n ++ [(cB,none)])))
theorem bytesO_app : ∀ (a b : List (ByteArray × Option UInt8)),bytesO (a ++ b) = bytesO a ++ bytesO b
 | [],b=>rfl
 | (t,some c) :: a,b=>by
  show t.data.toList ++ c :: bytesO (a ++ b) = (t.data.toList ++ c :: bytesO a) ++ bytesO b
  rw [bytesO_app a b,List.append_assoc]; rfl
 | (t,none) :: a,b=>by
  show t.data.toList ++ bytesO (a ++ b) = (t.data.toList ++ bytesO a) ++ bytesO b
  rw [bytesO_app a b,List.append_assoc]
theorem bytes_ends : ∀ (tk : List ByteArray) (o : Option UInt8),tk ≠ [] → bytesO (endsO tk o) = (lineB tk).data.toList ++ o.toList
 | [],o,h=>absurd rfl h
 | [t],none,_=>by show t.data.toList ++ [] = t.data.toList ++ []; rfl
 | [t],some c,_=>rfl
 | t :: u :: l,o,_=>by
  rw [lineB_cons2]
  show t.data.toList ++ 32 :: bytesO (endsO (u :: l) o) = _
  rw [bytes_ends (u :: l) o (by simp)]
  simp
theorem bytes_open : ∀ n,bytesO (List.replicate n (oP,none)) = List.replicate n 40
 | 0=>rfl
 | n + 1=>by
  rw [List.replicate_succ,List.replicate_succ,← bytes_open n]; rfl
theorem bytes_close : ∀ n,bytesO (clP n) = List.replicate n 41 ++ (if n = 0 then [] else [32])
 | 0=>rfl
 | 1=>rfl
 | n + 2=>by
  show 41 :: bytesO (clP (n + 1)) = _
  rw [bytes_close (n + 1),List.replicate_succ (n:=n + 1),if_neg (by omega),if_neg (by omega)]; rfl
theorem fst_close : ∀ n,(clP n).map Prod.fst = List.replicate n cP
 | 0=>rfl
 | 1=>rfl
 | n + 2=>by
  show cP :: (clP (n + 1)).map Prod.fst = _
  rw [fst_close (n + 1),List.replicate_succ (n:=n + 1)]
theorem fst_ends : ∀ (tk : List ByteArray) (o : Option UInt8),(endsO tk o).map Prod.fst = tk
 | [],_=>rfl
 | [t],_=>rfl
 | t :: u :: l,o=>by
  show t :: (endsO (u :: l) o).map Prod.fst = _
  rw [fst_ends (u :: l) o]
theorem round_fst (n : Nat) (tk : List ByteArray) : (roundL n tk).map Prod.fst = roundTk n tk:=by
 unfold roundL roundTk parsTk
 rw [List.map_append,List.map_append,List.map_append,List.map_append,fst_close,fst_ends,List.map_replicate,List.append_assoc,List.append_assoc]
 rfl
theorem round_bytes (n : Nat) {tk : List ByteArray} (h : tk ≠ []) : bytesO (roundL n tk) = (roundB n (lineB tk)).data.toList:=by
 unfold roundL
 rw [bytesO_app,bytesO_app,bytesO_app,bytesO_app,bytes_close,bytes_ends tk _ h,bytes_open]
 have e1 : bytesO headP = preU.data.toList:=by kernel_rfl
 have e2 : bytesO [(cB,none)] = [125]:=by kernel_rfl
 have e3 : postU.data.toList = [32,125]:=by kernel_rfl
 rw [e1,e2]
 unfold roundB repB sepO
 by_cases hn : n = 0
 ·subst hn
  simp [e3]
 ·simp [hn,e3]
theorem ok_tail : ∀ n,OkL (clP n ++ [(cB,none)])
 | 0=>⟨.inr (.inr ⟨rfl,rfl⟩),trivial⟩
 | 1=>⟨by kernel_rfl,rfl,.inr (.inr ⟨rfl,rfl⟩),trivial⟩
 | n + 2=>by
  refine ⟨.inr (.inl ⟨by kernel_rfl,?_⟩),ok_tail (n + 1)⟩
  cases n with
  | zero=>exact ⟨_,_,rfl⟩
  | succ n=>exact ⟨_,_,rfl⟩
theorem ok_ends : ∀ (tk : List ByteArray) (o : Option UInt8) (X : List (ByteArray × Option UInt8)),(∀ t ∈ tk,goodB t = true) → (o = some 32 ∨ (o = none ∧ ∃ o' l',X = (cP,o') :: l')) → OkL X → OkL (endsO tk o ++ X)
 | [],_,X,_,_,h=>h
 | [t],o,X,hg,ho,h=>by
  rcases ho with rfl | ⟨rfl,o',l',hX⟩
  ·exact ⟨hg t (by simp),rfl,h⟩
  ·exact ⟨.inr (.inl ⟨hg t (by simp),o',l',hX⟩),h⟩
 | t :: u :: l,o,X,hg,ho,h=>⟨hg t (by simp),rfl,ok_ends (u :: l) o X (fun x hx=>hg x (List.mem_cons_of_mem _ hx)) ho h⟩
theorem ok_open {X : List (ByteArray × Option UInt8)} (h : OkL X) : ∀ n,OkL (List.replicate n (oP,none) ++ X)
 | 0=>h
 | n + 1=>⟨.inl rfl,ok_open h n⟩
theorem round_ok (n : Nat) {tk : List ByteArray} (hg : ∀ t ∈ tk,goodB t = true) : OkL (roundL n tk):=by
 have h1 : OkL (endsO tk (sepO n) ++ (clP n ++ [(cB,none)])):=by
  refine ok_ends tk _ _ hg ?_ (ok_tail n)
  unfold sepO
  cases n with
  | zero=>exact .inl rfl
  | succ n =>
   refine .inr ⟨rfl,?_⟩
   cases n with
   | zero=>exact ⟨_,_,rfl⟩
   | succ n=>exact ⟨_,_,rfl⟩
 have h2:=ok_open h1 n
 exact ⟨by kernel_rfl,rfl,by kernel_rfl,rfl,by kernel_rfl,rfl,by kernel_rfl,rfl,by kernel_rfl,rfl,by kernel_rfl,rfl,by kernel_rfl,rfl,h2⟩
theorem round_parse {e : Ex} {d : Int} (hw : e.whole d = true) (hrg : ExRg e) (hl : lentOp e.op = false) (n : Nat) (hs : (roundB n (lineB e.tk)).size ≤ 4000) (ht : (roundTk n e.tk).length ≤ 1500) : ∃ e' pos,parseQ 20000 (roundB n (lineB e.tk)) = some [⟨3,(⟨#[102]⟩ : ByteArray),[],.mk 1 emS [],[],e',pos⟩] ∧ keyE e' = keyE e:=by
 have hg : ∀ t ∈ e.tk,goodB t = true:=List.all_eq_true.1 (good_exs hw hrg)
 obtain ⟨t,ts,htk,_⟩:=ex_head e ⟨d,hw⟩
 have hne : e.tk ≠ []:=by rw [htk]; simp
 have hL : (roundL n e.tk).length = (roundTk n e.tk).length:=by rw [← round_fst,List.length_map]
 have hok:=round_ok n hg
 have hb:=round_bytes n hne
 obtain ⟨l,e1,e2,e3⟩:=lex_opt (roundL n e.tk) 0 (20000 - 3 - (roundL n e.tk).length) hok
 have hN : 20000 - 3 - (roundL n e.tk).length + (roundL n e.tk).length + 3 = 20000:=by omega
 rw [hN,hb] at e1
 have hbw : betwF 20000 (roundB n (lineB e.tk)).data.toList = some 0:=by
  rw [← hb]
  exact betw_O _ hok 19999
 rw [round_fst] at e2
 have hll : l.length = (roundTk n e.tk).length:=by rw [← e2,List.length_map]
 obtain ⟨e',pos,s1,k1,k2,k3,k4⟩:=round_rd e3 ⟨d,hw⟩ (ex_back e3 ⟨d,hw⟩ hrg hl) (n:=n) (m:=20000) (by omega) 20000 (by omega) e2
 refine ⟨e',pos,?_,k4⟩
 unfold parseQ
 rw [if_neg (by omega),hbw]
 simp only
 rw [List.drop_zero,e1]
 simp only
 rw [if_neg (by omega),k1]
 simp only
 rw [if_neg (by rw [k2,k3]; simp)]
end Go.Proofs.YthohopjnpgbljaaGreatDoor
