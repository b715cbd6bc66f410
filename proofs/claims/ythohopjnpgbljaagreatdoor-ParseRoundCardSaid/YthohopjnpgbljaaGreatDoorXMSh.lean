/- A part of the proof. The statement is proved in the claim's last text. -/
import Derived.Test.YthohopjnpgbljaaGreatDoorXMPg
import Derived.Lib.ItoaLen
import Derived.Test.YthohopjnpgbljaaGreatDoorXMWh
set_option linter.unusedVariables false
set_option linter.unusedSimpArgs false
set_option maxRecDepth 100000
set_option maxHeartbeats 32000000
namespace Go.Proofs.YthohopjnpgbljaaGreatDoor
open Go.RowKit
def tsum {α : Type} (t : α → Nat) : List α → Nat
 | []=>0
 | x :: l=>t x + tsum t l
theorem fold_ts {α : Type} {g : α → Int → Int} {t : α → Nat} : ∀ (l : List α),(∀ x ∈ l,∀ m,0 ≤ g x m → (t x : Int) ≤ 3 * (m - g x m)) → ∀ n,0 ≤ roomFold g l n → (tsum t l : Int) ≤ 3 * (n - roomFold g l n)
 | [],_,n,h=>by simp [tsum,roomFold]
 | x :: l,h,n,hn=>by
  unfold roomFold at hn ⊢
  split at hn
  ·omega
  ·rename_i h0
   rw [if_neg h0]
   have h1:=fold_pos hn
   have h2:=h x (by simp) n h1
   have h3:=fold_ts l (fun y hy=>h y (by simp [hy])) _ hn
   simp only [tsum]
   omega
theorem tl_commas : ∀ (ts : List (List ByteArray)),tl (commas ts) ≤ tsum (fun a=>tl a + 2) ts
 | []=>Nat.zero_le _
 | a :: l=>by
  have hf : ∀ l : List (List ByteArray),tl (l.flatMap fun x=>(⟨#[44]⟩ : ByteArray) :: x) = tsum (fun a=>tl a + 2) l:=fun l=>by
   induction l with
   | nil=>rfl
   | cons a l ih =>
    rw [List.flatMap_cons,tl_append,tl_cons,ih]
    have : (⟨#[44]⟩ : ByteArray).size = 1:=rfl
    simp only [tsum,this]; omega
  simp only [commas,tl_append,hf,tsum]
  omega
theorem tsum_map {α β : Type} (f : α → β) (t : β → Nat) (l : List α) : tsum t (l.map f) = tsum (fun x=>t (f x)) l:=by
 induction l with
 | nil=>rfl
 | cons a l ih=>simp [tsum,ih]
theorem z1 : (⟨#[38]⟩ : ByteArray).size = 1 ∧ (⟨#[109,117,116]⟩ : ByteArray).size = 3 ∧ (⟨#[60]⟩ : ByteArray).size = 1 ∧ (⟨#[62]⟩ : ByteArray).size = 1 ∧ (⟨#[40]⟩ : ByteArray).size = 1 ∧ (⟨#[41]⟩ : ByteArray).size = 1 ∧ (⟨#[46]⟩ : ByteArray).size = 1 ∧ (⟨#[44]⟩ : ByteArray).size = 1 ∧ (⟨#[61]⟩ : ByteArray).size = 1 ∧ (⟨#[123]⟩ : ByteArray).size = 1 ∧ (⟨#[125]⟩ : ByteArray).size = 1:=⟨rfl,rfl,rfl,rfl,rfl,rfl,rfl,rfl,rfl,rfl,rfl⟩
theorem names_ts {l : List ByteArray} {n : Int} (h : 0 ≤ namesRoom l n) : (tsum (fun s=>3 * (s.size + 5)) l : Int) ≤ 3 * (n - 5 - namesRoom l n):=by
 unfold namesRoom at h ⊢
 refine fold_ts l (fun s _ m hm=>?_) _ h
 obtain ⟨h1,h2⟩:=nameRoom_in hm
 rw [h2]; push_cast; omega
theorem pathTk_tl (l : List ByteArray) : tl (pathTk l) = tsum (fun s=>s.size + 3) l:=by
 induction l with
 | nil=>rfl
 | cons s l ih =>
  have : (⟨#[46]⟩ : ByteArray).size = 1:=rfl
  simp only [pathTk,tl_cons,tsum,ih,this]; omega
theorem tsum_le {α : Type} {t u : α → Nat} (l : List α) (h : ∀ x ∈ l,t x ≤ u x) : tsum t l ≤ tsum u l:=by
 induction l with
 | nil=>exact Nat.le_refl _
 | cons a l ih =>
  have h1:=h a (by simp)
  have h2:=ih fun x hx=>h x (by simp [hx])
  simp only [tsum]; omega
theorem pl_tl {x : Pl} {n : Int} (h : 0 ≤ x.room n) : (tl x.tk : Int) + 12 ≤ 3 * (n - x.room n) ∧ (tsum (fun s=>3 * (s.size + 5)) x.path : Int) + 15 ≤ 3 * (n - x.room n):=by
 unfold Pl.room at h ⊢
 have h0:=names_pos h
 obtain ⟨h1,h2⟩:=nameRoom_in h0
 have h3:=names_ts h
 have h4 : tsum (fun s : ByteArray=>s.size + 3) x.path ≤ tsum (fun s=>3 * (s.size + 5)) x.path:=tsum_le _ fun s _=>by omega
 unfold Pl.tk
 simp only [tl_cons,pathTk_tl]
 omega
theorem signB_size (op : Int) : (signB op).size ≤ 3:=by
 unfold signB
 repeat' split
 all_goals decide
theorem wordL_size (op : Int) : (wordL op).size ≤ 6:=by
 by_cases hop21 : op = 21
 ·subst hop21; decide
 by_cases hop22 : op = 22
 ·subst hop22; decide
 by_cases hop23 : op = 23
 ·subst hop23; decide
 by_cases hop24 : op = 24
 ·subst hop24; decide
 by_cases hop25 : op = 25
 ·subst hop25; decide
 by_cases hop26 : op = 26
 ·subst hop26; decide
 by_cases hop27 : op = 27
 ·subst hop27; decide
 by_cases hop28 : op = 28
 ·subst hop28; decide
 by_cases hop29 : op = 29
 ·subst hop29; decide
 by_cases hop30 : op = 30
 ·subst hop30; decide
 by_cases hop31 : op = 31
 ·subst hop31; decide
 by_cases hop32 : op = 32
 ·subst hop32; decide
 by_cases hop33 : op = 33
 ·subst hop33; decide
 by_cases hop34 : op = 34
 ·subst hop34; decide
 by_cases hop35 : op = 35
 ·subst hop35; decide
 skip
 unfold wordL
 rw [if_neg hop21,if_neg hop22,if_neg hop23,if_neg hop24,if_neg hop25,if_neg hop26,if_neg hop27,if_neg hop28,if_neg hop29,if_neg hop30,if_neg hop31,if_neg hop32,if_neg hop33,if_neg hop34,if_neg hop35]
 decide
theorem itoaB_size (n : Int) (h0 : -9223372036854775808 ≤ n) (h1 : n ≤ 9223372036854775807) : (itoaB n).size ≤ 21:=by
 have:=Lib.itoa_length_le n h0 h1
 show ((Lib.itoa n).toArray).size ≤ 21
 rw [List.size_toArray]; exact this
theorem parTk_tl (op least : Int) (t : List ByteArray) : tl (parTk op least t) ≤ tl t + 4:=by
 obtain ⟨_,_,_,_,z5,z6,_⟩:=z1
 unfold parTk
 split
 ·simp only [tl_cons,tl_append,tl_nil,z5,z6]; omega
 ·omega
theorem given_tl : ∀ (ns : List ByteArray) (ts : List (List ByteArray)),tsum (fun a=>tl a + 2) (givenTk ns ts) ≤ tsum (fun s=>3 * (s.size + 5)) ns + tsum tl ts
 | [],ts=>Nat.zero_le _
 | n :: ns,[]=>Nat.zero_le _
 | n :: ns,a :: ts=>by
  have:=given_tl ns ts
  have z : (⟨#[61]⟩ : ByteArray).size = 1:=rfl
  simp only [givenTk,tsum,tl_cons,z]; omega
theorem ex_tl : ∀ (e : Ex),ExRg e → ∀ n,0 ≤ e.room n → (tl e.tk : Int) + 6 ≤ 3 * (n - e.room n):=by
 refine Ex.ind fun e ih hr n h=>?_
 obtain ⟨⟨hi1,hi2⟩,hrs⟩:=(exRg_iff e).1 hr
 rw [exRoom_eq] at h ⊢
 have h0:=fold_pos h
 have h1:=pl_pos h0
 obtain ⟨h2,h3⟩:=nameRoom_in h1
 have h4 : 0 ≤ nameRoom e.name.size n:=by omega
 obtain ⟨h5,h6⟩:=nameRoom_in h4
 have hs:=fold_ts (t:=fun x=>tl x.tk + 6) e.args (fun x hx m hm=>by have:=ih x hx (hrs x hx) m hm; push_cast; omega) _ h
 obtain ⟨hp1,hp2⟩:=pl_tl h0
 have hz : (tl e.tk : Int) ≤ 3 * (e.name.size + e.second.size) + 33 + 3 * (e.place.room (nameRoom e.second.size (nameRoom e.name.size n)) - roomFold Ex.room e.args (e.place.room (nameRoom e.second.size (nameRoom e.name.size n)))) + 3 * (nameRoom e.second.size (nameRoom e.name.size n) - e.place.room (nameRoom e.second.size (nameRoom e.name.size n))) - 11:=by
  generalize roomFold Ex.room e.args (e.place.room (nameRoom e.second.size (nameRoom e.name.size n))) = R at *
  generalize e.place.room (nameRoom e.second.size (nameRoom e.name.size n)) = Q at *
  generalize nameRoom e.second.size (nameRoom e.name.size n) = T at *
  have hz:=itoaB_size e.int hi1 hi2
  have hsg:=signB_size e.op
  have hwd:=wordL_size e.op
  obtain ⟨z1,z2,z3,z4,z5,z6,z7,z8,z9,z10,z11⟩:=z1
  have hcm : tl (commas (e.args.map Ex.tk)) ≤ tsum (fun x=>tl x.tk + 6) e.args:=by
   refine Nat.le_trans (tl_commas _) ?_
   rw [tsum_map]
   exact tsum_le _ fun x _=>by omega
  have hgv : tl (commas (givenTk e.place.path (e.args.map Ex.tk))) ≤ tsum (fun s=>3 * (s.size + 5)) e.place.path + tsum (fun x=>tl x.tk + 6) e.args:=by
   refine Nat.le_trans (tl_commas _) (Nat.le_trans (given_tl _ _) ?_)
   rw [tsum_map]
   have : tsum (fun x : Ex=>tl x.tk) e.args ≤ tsum (fun x=>tl x.tk + 6) e.args:=tsum_le _ fun x _=>by omega
   omega
  by_cases h7 : signI e.op < 7
  ·rw [exTk_eq]
   unfold exTk1
   rw [if_pos h7]
   rcases ha : e.args with _ | ⟨x,_ | ⟨y,l⟩⟩
   ·simp only [List.map_nil,tl_nil]; omega
   ·simp only [ha,tsum] at hs
    have:=parTk_tl x.op (signI e.op) x.tk
    simp only [List.map_cons,List.map_nil,tl_cons]; push_cast at hs ⊢; omega
   ·simp only [ha,tsum] at hs
    have h1:=parTk_tl x.op (if signI e.op = 3 then 4 else signI e.op) x.tk
    have h2:=parTk_tl y.op (signI e.op + 1) y.tk
    simp only [List.map_cons,tl_cons,tl_append]; push_cast at hs ⊢; omega
  ·have htk:=exTk_plain h7
   by_cases hop1 : e.op = 1
   ·simp [hop1] at htk
    rw [htk]
    simp only [tl_cons,tl_nil,tl_append,z1,z2,z3,z4,z5,z6,z7,z8,z9,z10,z11]; omega
   by_cases hop2 : e.op = 2
   ·simp [hop2] at htk
    rw [htk]
    have y1 : (⟨#[102,97,108,115,101]⟩ : ByteArray).size = 5:=rfl
    have y2 : (⟨#[116,114,117,101]⟩ : ByteArray).size = 4:=rfl
    by_cases hi : e.int = 0
    ·simp only [hi,if_true,tl_cons,tl_nil,y1]; omega
    ·simp only [hi,if_false,tl_cons,tl_nil,y2]; omega
   by_cases hop3 : e.op = 3
   ·simp [hop3] at htk
    rw [htk]
    simp only [tl_cons,tl_nil,tl_append,z1,z2,z3,z4,z5,z6,z7,z8,z9,z10,z11]; omega
   by_cases hop4 : e.op = 4
   ·simp [hop4] at htk
    rw [htk]
    omega
   by_cases hop5 : e.op = 5
   ·simp [hop5] at htk
    rw [htk]
    simp only [tl_cons,tl_nil,tl_append,z1,z2,z3,z4,z5,z6,z7,z8,z9,z10,z11]; omega
   by_cases hop6 : e.op = 6
   ·simp [hop6] at htk
    rw [htk]
    simp only [tl_cons,tl_nil,tl_append,z1,z2,z3,z4,z5,z6,z7,z8,z9,z10,z11]; omega
   by_cases hop18 : e.op = 18
   ·simp [hop18] at htk
    rw [htk]
    simp only [tl_cons,tl_nil,tl_append,z1,z2,z3,z4,z5,z6,z7,z8,z9,z10,z11]; omega
   by_cases hop19 : e.op = 19
   ·simp [hop19] at htk
    rw [htk]
    simp only [tl_cons,tl_nil,tl_append,z1,z2,z3,z4,z5,z6,z7,z8,z9,z10,z11]; omega
   by_cases hop20 : e.op = 20
   ·simp [hop20] at htk
    rw [htk]
    rcases ha : e.args with _ | ⟨x,l⟩
    ·simp only [tl_cons,tl_nil,z7]; omega
    ·simp only [ha,tsum] at hs
     simp only [tl_cons,tl_nil,tl_append,z5,z6,z7]; push_cast at hs ⊢; omega
   have hc : e.tk = wordL e.op :: (⟨#[40]⟩ : ByteArray) :: ((if sEq e.place.name emS then [] else e.place.tk ++ (if e.args.length = 0 then [] else [(⟨#[44]⟩ : ByteArray)])) ++ (commas (e.args.map Ex.tk) ++ [(⟨#[41]⟩ : ByteArray)])):=by
    rw [exTk_eq]
    unfold exTk1
    rw [if_neg h7,if_neg hop1,if_neg hop2,if_neg hop3,if_neg hop4,if_neg hop5,if_neg hop6,if_neg hop18,if_neg hop19,if_neg hop20]
    simp [Function.comp_def]
   rw [hc]
   cases sEq e.place.name emS with
   | true=>simp only [if_true,tl_cons,tl_nil,tl_append,z5,z6]; omega
   | false =>
    by_cases hl : e.args.length = 0
    ·simp only [hl,Bool.false_eq_true,if_true,if_false,tl_cons,tl_nil,tl_append,z5,z6]; omega
    ·simp only [hl,Bool.false_eq_true,if_false,tl_cons,tl_nil,tl_append,z5,z6,z8]; omega
 omega
inductive ExTl : Ex → Prop
 | mk (e : Ex) : tl e.tk ≤ 2000000000 → (∀ x ∈ e.args,ExTl x) → ExTl e
theorem foldl_base (l : List ByteArray) (a b : ByteArray) : l.foldl (fun b t=>b ++ (⟨#[32]⟩ : ByteArray) ++ t) (a ++ b) = a ++ l.foldl (fun b t=>b ++ (⟨#[32]⟩ : ByteArray) ++ t) b:=by
 induction l generalizing b with
 | nil=>rfl
 | cons s l ih =>
  simp only [List.foldl_cons]
  rw [show a ++ b ++ (⟨#[32]⟩ : ByteArray) ++ s = a ++ (b ++ (⟨#[32]⟩ : ByteArray) ++ s) by simp [ByteArray.append_assoc],ih]
end Go.Proofs.YthohopjnpgbljaaGreatDoor
namespace Go.Proofs.YthohopjnpgbljaaGreatDoor
open Go.RowKit
attribute [local simp] List.replicate List.range List.range.loop resA resOne retA
theorem ADet.ghost {P : Program} {K : FuncId} {args : List AV} {L L' : List AObj} {R S' : ASt} {r : AV} (E : TypeId) (k : Nat) (hk : 0 < k) (hL : wkNL k L.length L L') (h : ADet P K args ((L' ++ [.tok E k 0]) :: R) r S') : ADet P K args (L :: R) r S':=by
 refine ⟨h.1,fun Pr φ xs w hargs hR hne=>?_⟩
 obtain ⟨φ',s,hf,hR',_⟩:=Leads.ghost (R:=R) (L:=L) (L':=L') (fr:=args) (fr':=args) E k hk (by
  have : ∀ l : List AV,wkNR k L.length l l:=fun l=>by
   induction l with
   | nil=>trivial
   | cons a l ih=>exact ⟨.inr (.inl rfl),ih⟩
  exact this _) hL Pr φ { tmps:=xs,defers:=[] } w ⟨hargs.1,hargs.2⟩ hR hne
 refine (h.2 Pr φ' xs w ⟨hf.len,hf.at_⟩ hR' (ne_of_stp s hne)).mono fun e w' hp=>?_
 obtain ⟨x,Pr',φ'',h1,h2,h3,h4⟩:=hp
 exact ⟨x,Pr',φ'',h1,s.trans h2,h3,h4⟩
def pg0 : Pg:=⟨false,emS,false⟩
def textOf (l : List ByteArray) : ByteArray:=(putT l pg0).bytes
theorem writtenC (K : Nat) (caps : List AV) (S : ASt) (fin : Pg) (hc : ∀ L : List AObj,∀ i j,At (L :: S) 0 i j pg0 → ADet Tryz.prog K (.ptr 0 i 0 :: AV.ups 1 caps) (L :: S) .un (upd (L :: S) 0 i j fin)) :
  ADet Tryz.prog 13 [B true,.fn (.func K) [] caps] S (Sg fin.bytes) S:=by
 refine ADet.intro mixed Tryz.call13 Tryz.func13 rfl ?_
 have h:=hc [.cells [.p (.v (.pointer none)),.osl 1 [] 0 1,B false] 82,.tok 5 1 0] 0 1 ⟨rfl,rfl,by decide⟩
 have h2:=ADet.ghost (L:=[.cells [.p (.v (.pointer none)),nilS,B false] 82]) (L':=[.cells [.p (.v (.pointer none)),.osl 1 [] 0 1,B false] 82]) 5 1 (by decide) (by simp [wkNL,wkNR,wkN]) h
 simp [Tryz.ntmps13]
 refine ⟨_,_,h2,?_⟩
 have hat : At (upd ([.cells [.p (.v (.pointer none)),.osl 1 [] 0 1,B false] 82,.tok 5 1 0] :: S) 0 0 1 fin) 0 0 1 fin:=At.upd (p:=pg0) ⟨rfl,rfl,by decide⟩ fin
 have hs:=builderString (upd ([.cells [.p (.v (.pointer none)),.osl 1 [] 0 1,B false] 82,.tok 5 1 0] :: S) 0 0 1 fin) 0 0 1 (adrA fin.used 0) (B fin.line) fin.bytes hat.o hat.t
 simp
 refine ⟨_,_,hs,?_⟩
 simp [upd]
theorem writtenN (f : AV) (S : ASt) : ADet Tryz.prog 13 [B false,f] S (Sg emS) S:=by
 refine ADet.intro mixed Tryz.call13 Tryz.func13 rfl ?_
 simp [Tryz.ntmps13]
theorem WrC.new {F : Nat} {args : List AV} {l : List ByteArray} (hw : WrC F args l) {S : ASt} {i j : Nat} (h : At S 0 i j pg0) (hb : tl l ≤ 4294967296) : ADet Tryz.prog F (.ptr 1 i 0 :: args) ([] :: S) .un ([] :: upd S 0 i j (putT l pg0)):=by
 have:=hw _ _ i j _ (h.push []) (by show (0 : Nat) + tl l ≤ _; omega)
 rw [upd_suc] at this
 exact this
theorem showExpr1 (x : Ex) (hsm : ExSm x) (hr : ExRg x) (hw : exWhole1 x = true) (hb : tl x.tk ≤ 4294967296) (L L0 : List AObj) (S : ASt) (i j : Nat) (hL : L0[0]? = some (.cells [U x.op,I x.int,Sg x.name,Sg x.second,Sg x.place.name,.p (strs x.place.path),.p (.sl 8 (x.args.map Ex.enc)),I x.pos] 27)) (h : At (L :: L0 :: S) 0 i j pg0) :
  ADet Tryz.prog 15 [.ptr 0 i 0,.ptr 1 0 0] (L :: L0 :: S) .un (upd (L :: L0 :: S) 0 i j (putT x.tk pg0)):=by
 have hwr : WrC 16 [exV x,I 0] x.tk:=by
  have:=exprW x 40 (by simp only [exWhole1,Bool.and_eq_true] at hw; exact hw.2) hr 0
  rwa [parTk_0] at this
 refine ADet.intro mixed Tryz.call15 Tryz.func15 rfl ?_
 simp [Tryz.ntmps15,hL]
 refine ⟨_,_,hwr.new h hb,?_⟩
 simp
theorem showExprC (x : Ex) (hsm : ExSm x) (hr : ExRg x) (hb : tl x.tk ≤ 4294967296) (S : ASt) : ADet Tryz.prog 6 [exV x] S (Sg (if exWhole1 x then textOf x.tk else emS)) S:=by
 refine ADet.intro mixed Tryz.call6 Tryz.func6 rfl ?_
 simp [Tryz.ntmps6]
 refine ⟨_,_,wholeExpr40 x hsm _,?_⟩
 simp
 cases hw : exWhole1 x with
 | false =>
  refine ⟨_,_,writtenN _ _,?_⟩
  simp
 | true =>
  refine ⟨_,_,writtenC 15 [.ptr 0 0 0] _ (putT x.tk pg0) (fun L i j h=>?_),?_⟩
  ·exact showExpr1 x hsm hr hw hb L _ S i j rfl h
  ·simp [textOf]
end Go.Proofs.YthohopjnpgbljaaGreatDoor
namespace Go.Proofs.YthohopjnpgbljaaGreatDoor
open Go.RowKit
theorem putT_line (l : List ByteArray) : ∀ (p : Pg),p.line = true → (putT l p).bytes = l.foldl (fun b t=>b ++ (⟨#[32]⟩ : ByteArray) ++ t) p.bytes:=by
 induction l with
 | nil=>intro p _; rfl
 | cons s l ih =>
  intro p hp
  obtain ⟨u,b,k⟩:=p
  simp only at hp
  subst hp
  rw [putT_cons,ih _ (by rfl),List.foldl_cons]
  rfl
theorem textOf_line (l : List ByteArray) : textOf l = lineB l:=by
 unfold textOf
 cases l with
 | nil=>rfl
 | cons s l =>
  rw [putT_cons,putT_line l _ (by rfl)]
  show l.foldl _ (emS ++ s) = _
  rw [em_append]
  rfl
end Go.Proofs.YthohopjnpgbljaaGreatDoor
namespace Go.Proofs.YthohopjnpgbljaaGreatDoor
open Go.RowKit
theorem lineB_cons2 (s t : ByteArray) (l : List ByteArray) : lineB (s :: t :: l) = s ++ (⟨#[32]⟩ : ByteArray) ++ lineB (t :: l):=by
 show l.foldl (fun b t=>b ++ (⟨#[32]⟩ : ByteArray) ++ t) (s ++ (⟨#[32]⟩ : ByteArray) ++ t) = _
 rw [foldl_base]
 rfl
theorem lineB_ge : ∀ (l : List ByteArray) (s : ByteArray),s ∈ l → s.size ≤ (lineB l).size
 | [],s,h=>by cases h
 | [t],s,h=>by
  rcases List.mem_cons.1 h with rfl | h
  ·exact Nat.le_refl _
  ·cases h
 | t :: u :: l,s,h=>by
  rw [lineB_cons2,ByteArray.size_append,ByteArray.size_append]
  rcases List.mem_cons.1 h with rfl | h
  ·omega
  ·have:=lineB_ge (u :: l) s h
   omega
theorem textOf_pos {l : List ByteArray} {s : ByteArray} (h : s ∈ l) (hs : 0 < s.size) : 0 < (textOf l).size:=by
 rw [textOf_line]
 have:=lineB_ge l s h
 omega
theorem named_pos {f : Int → Bool} {s : ByteArray} (h : namedB f s = true) : 0 < s.size:=by
 rcases Nat.eq_zero_or_pos s.size with h0 | h0
 ·rw [namedB,dif_neg (by omega)] at h; cases h
 ·exact h0
theorem itoaB_pos (n : Int) : 0 < (itoaB n).size:=by
 show 0 < (Lib.itoa n).toArray.size
 rw [List.size_toArray]
 have key : ∀ u,0 < (Lib.decDigits u).length:=fun u=>by
  rw [Lib.decDigits]
  split <;> simp
 unfold Lib.itoa
 split
 ·simp
 ·exact key _
theorem ex_text {e : Ex} {d : Int} (h : e.whole d = true) : 0 < (textOf e.tk).size:=by
 rw [exWhole_eq] at h
 simp only [Bool.and_eq_true,exHead] at h
 obtain ⟨h0,⟨ho,hlab,hl,hpl⟩,hall⟩:=h
 simp only [decide_eq_true_eq] at h0 hl
 simp only [shO,Bool.and_eq_true,decide_eq_true_eq] at ho
 rw [exTk_eq]
 have hlen : (e.args.map fun x=>(x.op,x.tk)).length = e.args.length:=by simp
 generalize (e.args.map fun x=>(x.op,x.tk)) = l at *
 by_cases h7 : signI e.op < 7
 ·have hop : 7 ≤ e.op ∧ e.op ≤ 17:=by
   unfold signI at h7
   repeat' split at h7
   all_goals omega
  have hsz : 0 < (signB e.op).size:=by
   unfold signB
   repeat' split
   all_goals first | decide | omega
  have h1 : 1 ≤ shL e.op:=by
   unfold shL
   rw [if_neg (by omega)]
   split <;> omega
  unfold exTk1
  rw [if_pos h7]
  match l,hlen with
  | [],hlen=>simp at hlen; omega
  | [(o,a)],_=>exact textOf_pos (l:=signB e.op :: parTk o (signI e.op) a) (s:=signB e.op) List.mem_cons_self hsz
  | (o,a) :: (o',a') :: r,_=>exact textOf_pos (l:=parTk o (if signI e.op = 3 then 4 else signI e.op) a ++ signB e.op :: parTk o' (signI e.op + 1) a') (s:=signB e.op) (List.mem_append_right _ List.mem_cons_self) hsz
 ·unfold exTk1
  rw [if_neg h7]
  by_cases h1 : e.op = 1
  ·rw [if_pos h1]
   exact textOf_pos (s:=itoaB e.int) (by simp) (itoaB_pos _)
  rw [if_neg h1]
  by_cases h2 : e.op = 2
  ·rw [if_pos h2]
   by_cases hi : e.int = 0
   ·rw [if_pos hi]; exact textOf_pos (s:=(⟨#[102,97,108,115,101]⟩ : ByteArray)) (by simp) (by decide)
   ·rw [if_neg hi]; exact textOf_pos (s:=(⟨#[116,114,117,101]⟩ : ByteArray)) (by simp) (by decide)
  rw [if_neg h2]
  by_cases h3 : e.op = 3
  ·rw [if_pos h3]
   exact textOf_pos (s:=(⟨#[40]⟩ : ByteArray)) (by simp) (by decide)
  rw [if_neg h3]
  by_cases h4 : e.op = 4
  ·rw [if_pos h4]
   rw [h4] at hpl
   simp only [placedB,show shP 4 = true from rfl,if_true,Pl.whole,Bool.and_eq_true] at hpl
   exact textOf_pos (l:=e.place.name :: pathTk e.place.path) (s:=e.place.name) List.mem_cons_self (named_pos (f:=lowerB) hpl.1)
  rw [if_neg h4]
  by_cases h5 : e.op = 5
  ·rw [if_pos h5]
   exact textOf_pos (s:=(⟨#[38]⟩ : ByteArray)) List.mem_cons_self (by decide)
  rw [if_neg h5]
  by_cases h6 : e.op = 6
  ·rw [if_pos h6]
   exact textOf_pos (s:=(⟨#[38]⟩ : ByteArray)) List.mem_cons_self (by decide)
  rw [if_neg h6]
  by_cases h18 : e.op = 18
  ·rw [if_pos h18]
   exact textOf_pos (s:=(⟨#[40]⟩ : ByteArray)) (List.mem_cons_of_mem _ List.mem_cons_self) (by decide)
  rw [if_neg h18]
  by_cases h19 : e.op = 19
  ·rw [if_pos h19]
   exact textOf_pos (s:=(⟨#[123]⟩ : ByteArray)) (List.mem_cons_of_mem _ List.mem_cons_self) (by decide)
  rw [if_neg h19]
  by_cases h20 : e.op = 20
  ·rw [if_pos h20]
   exact textOf_pos (s:=(⟨#[46]⟩ : ByteArray)) (List.mem_cons_of_mem _ List.mem_cons_self) (by decide)
  rw [if_neg h20]
  exact textOf_pos (s:=(⟨#[40]⟩ : ByteArray)) (List.mem_cons_of_mem _ List.mem_cons_self) (by decide)
end Go.Proofs.YthohopjnpgbljaaGreatDoor
namespace Go.Proofs.YthohopjnpgbljaaGreatDoor
open Go.RowKit
def braceTk (b : List ByteArray) : List ByteArray:=(⟨#[123]⟩ : ByteArray) :: (b ++ [(⟨#[125]⟩ : ByteArray)])
def headTk (op int : Int) (name second : ByteArray) (names : List ByteArray) (ty : Ty) (pl : Pl) (ar : List ByteArray) : List ByteArray :=
 if op = 1 then [(⟨#[108,101,116]⟩ : ByteArray),name,(⟨#[61]⟩ : ByteArray)]
 else if op = 2 then (⟨#[108,101,116]⟩ : ByteArray) :: name :: (⟨#[123]⟩ : ByteArray) :: (commas (names.map fun s=>[s]) ++ [(⟨#[125]⟩ : ByteArray),(⟨#[61]⟩ : ByteArray)])
 else if op = 3 then pl.tk ++ [(⟨#[61]⟩ : ByteArray)]
 else if op = 5 then [(⟨#[100,114,111,112]⟩ : ByteArray),name,(⟨#[59]⟩ : ByteArray)]
 else if op = 6 then [(⟨#[105,102]⟩ : ByteArray)]
 else if op = 7 then [(⟨#[119,104,105,108,101]⟩ : ByteArray)]
 else if op = 8 then (⟨#[109,97,116,99,104]⟩ : ByteArray) :: name :: (⟨#[58]⟩ : ByteArray) :: second :: (⟨#[123]⟩ : ByteArray) :: (ar ++ [(⟨#[125]⟩ : ByteArray)])
 else if op = 9 then [(⟨#[115,99,111,112,101]⟩ : ByteArray)]
 else if op = 11 then (⟨#[108,111,99,107]⟩ : ByteArray) :: (pl.tk ++ [(⟨#[97,115]⟩ : ByteArray),name])
 else if op = 12 then (⟨#[99,104,97,110]⟩ : ByteArray) :: (⟨#[60]⟩ : ByteArray) :: (ty.tk ++ [(⟨#[62]⟩ : ByteArray),(⟨#[40]⟩ : ByteArray),itoaB int,(⟨#[41]⟩ : ByteArray),(⟨#[97,115]⟩ : ByteArray),name,(⟨#[44]⟩ : ByteArray),second,(⟨#[59]⟩ : ByteArray)])
 else []
def restTk (op : Int) (b : List ByteArray) (nel : Nat) (el : List ByteArray) : List ByteArray :=
 if op = 1 ∨ op = 2 ∨ op = 3 ∨ op = 4 then [(⟨#[59]⟩ : ByteArray)]
 else if op = 6 ∨ op = 7 ∨ op = 9 ∨ op = 11 ∨ op = 13 then braceTk b ++ (if nel = 0 then [] else (⟨#[101,108,115,101]⟩ : ByteArray) :: braceTk el)
 else []
def stTk1 (op int : Int) (name second : ByteArray) (names : List ByteArray) (ty : Ty) (pl : Pl) (es : List (List ByteArray)) (b : List ByteArray) (nel : Nat) (el ar : List ByteArray) : List ByteArray :=
 if op = 10 then (⟨#[115,112,97,119,110]⟩ : ByteArray) :: (⟨#[40]⟩ : ByteArray) :: (commas (givenTk names es) ++ (⟨#[41]⟩ : ByteArray) :: braceTk b)
 else headTk op int name second names ty pl ar ++ (es.flatten ++ restTk op b nel el)
def armTk (v n : ByteArray) (b : List ByteArray) : List ByteArray:=v :: ((if sEq n emS then [] else [(⟨#[40]⟩ : ByteArray),n,(⟨#[41]⟩ : ByteArray)]) ++ (⟨#[61,62]⟩ : ByteArray) :: braceTk b)
mutual
def St.tk : St → List ByteArray
 | .mk op name second names ty int pl es b el ar _=>stTk1 op int name second names ty pl (es.map Ex.tk) (St.tks b) el.length (St.tks el) (Ar.tks ar)
def St.tks : List St → List ByteArray
 | []=>[]
 | s :: l=>s.tk ++ St.tks l
def Ar.tks : List (ArOf St) → List ByteArray
 | []=>[]
 | ⟨v,n,b⟩ :: l=>armTk v n (St.tks b) ++ Ar.tks l
end
def Ar.tk (a : Ar) : List ByteArray:=armTk a.variant a.name (St.tks a.body)
def fieldTk (f : Fi) : List ByteArray:=f.name :: (⟨#[58]⟩ : ByteArray) :: f.type.tk
def varTk (f : Fi) : List ByteArray:=f.name :: (if f.type.kind = 0 then [] else (⟨#[40]⟩ : ByteArray) :: (f.type.tk ++ [(⟨#[41]⟩ : ByteArray)]))
def It.tk (x : It) : List ByteArray :=
 if x.kind = 1 then (⟨#[115,116,114,117,99,116]⟩ : ByteArray) :: x.name :: (⟨#[123]⟩ : ByteArray) :: (commas (x.fields.map fieldTk) ++ [(⟨#[125]⟩ : ByteArray)])
 else if x.kind = 2 then (⟨#[101,110,117,109]⟩ : ByteArray) :: x.name :: (⟨#[123]⟩ : ByteArray) :: (commas (x.fields.map varTk) ++ [(⟨#[125]⟩ : ByteArray)])
 else (⟨#[102,110]⟩ : ByteArray) :: x.name :: (⟨#[40]⟩ : ByteArray) :: (commas (x.fields.map fieldTk) ++ (⟨#[41]⟩ : ByteArray) :: (⟨#[45,62]⟩ : ByteArray) :: (x.result.tk ++ (⟨#[123]⟩ : ByteArray) :: (x.body.flatMap St.tk ++ (x.ret.tk ++ [(⟨#[125]⟩ : ByteArray)]))))
end Go.Proofs.YthohopjnpgbljaaGreatDoor
namespace Go.Proofs.YthohopjnpgbljaaGreatDoor
open Go.RowKit
end Go.Proofs.YthohopjnpgbljaaGreatDoor
