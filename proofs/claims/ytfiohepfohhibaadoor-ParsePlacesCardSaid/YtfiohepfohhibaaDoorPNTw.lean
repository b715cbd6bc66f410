/- A part of the proof. The statement is proved in the claim's last text. -/
import Derived.Test.YtfiohepfohhibaaDoorPNTu
import Derived.Test.YtfiohepfohhibaaDoorPNTv
import Derived.Test.YtfiohepfohhibaaDoorPNTt
import Derived.Test.YtfiohepfohhibaaDoorPNQr
set_option linter.unusedVariables false
set_option linter.unusedSimpArgs false
set_option maxRecDepth 100000
set_option maxHeartbeats 32000000
namespace Go.Proofs.YtfiohepfohhibaaDoor
open Go.RowKit
attribute [local simp] List.replicate List.range List.range.loop resA resOne retA AV.cuts AV.cut AObj.cut trim wkR wkT wkL wkN wkNR wkNL wkM wkMR wkML virtL virtO virt_get markL markO markR_get rowA awpI_nil awpI_cons List.forall_mem_cons List.contains_cons List.contains_nil List.find? nextD_eq awpD_nil awpD_cons LCp LCl refL
theorem programGT (n : Nat) (hn : n ≤ 100000) (s : ByteArray) (hsz : s.size ≤ 4000) (l : List Tok) (aC : ∀ S,ADet Tryd.prog 6 [Sg s] S (.tup [.p (.sl 3 (l.map Tok.enc)),I 0,I 0]) S) (hll : l.length ≤ 1500) (p : List It) (s1 : RS) (hit : itemsQ l n n [] ⟨0,false,false⟩ = some (p,s1)) (hp : s1.bad = false → s1.full = false → PrSm p ∧ itsDeep p ≤ 1000000) (e a : Int) (hf : refuseQ l s p s1 = some (e,a)) (S : ASt) : ADet Tryd.prog 5 [Sg s] S (.tup [noneP,oneP e a]) S:=by
 have oC:=oneRC e a
 refine refuse_le ?_
 unfold oneP
 refine ADet.intro mixed Tryd.call5 Tryd.func5 rfl ?_
 simp [Tryd.ntmps5]
 refine ⟨_,_,aC _,?_⟩
 simp
 refine awp_loopG 48 16 (by decide) [.cells [.any] 25,rdO l ⟨0,false,false⟩,.cells [.osl 16 [] 0 3] 25] (fun a : Nat × List It × RS=>itemsQ l n a.1 a.2.1 a.2.2 = some (p,s1) ∧ a.2.1.length + a.1 ≤ n ∧ a.2.2.at_ ≤ l.length) (fun a=>([Sg s,.any,.ptr 0 0 0,.any,.p (.sl 3 (l.map Tok.enc)),.any,.any,.ptr 0 1 0,.ptr 0 2 0] ++ List.replicate 89 .any)) (fun a=>[.cells [.any] 25,rdO l a.2.2,.cells [.osl 16 (a.2.1.map It.enc) 0 3] 25,.tok 48 16 a.2.1.length] :: S) (fun a=>a.1) (n,[],⟨0,false,false⟩) ⟨hit,by simp,Nat.zero_le _⟩ ?_ ?_ ?_ ?_
 ·simp
 ·simp
 ·rfl
 rintro ⟨k,acc,s4⟩ ⟨hl,hkn,hs4⟩
 simp only at hl hkn hs4
 cases k with
 | zero=>simp [itemsQ] at hl
 | succ k =>
 unfold itemsQ at hl
 split at hl
 ·rename_i hgo
  split at hl
  ·cases hl
  rename_i x s5 hx
  obtain ⟨xC,hs5⟩:=itemQW hn (by omega) hs4 hx
  have hlt' : (s4.at_ : Int) < (l.length : Int):=by omega
  have hap : acc.length + 1 ≤ 4294967296:=by omega
  simp [hlt',hgo.2]
  refine awp_draw [(1,3),(1,4)] (by kernel_rfl) (by kernel_rfl) ?_
  simp
  refine ⟨_,_,xC _ 0 1 ⟨rfl,hs4,by omega⟩,?_⟩
  simp [hap]
  exact ⟨k,acc ++ [x],s5,⟨hl,by simp; omega,hs5⟩,by omega,⟨by simp,by simp; rfl⟩⟩
 ·rename_i hgo
  cases hl
  unfold refuseQ at hf
  cases hbad : s1.bad with
  | true =>
   rw [hbad,if_pos rfl] at hf
   by_cases hlt : s1.at_ < l.length
   ·have hlt' : (s1.at_ : Int) < (l.length : Int):=by omega
    rw [List.getElem?_eq_getElem hlt] at hf
    simp only [Option.some.injEq,Prod.mk.injEq] at hf
    obtain ⟨rfl,rfl⟩:=hf
    generalize hy : l[s1.at_] = y at *
    simp [hlt,hlt',hbad,hy,Tok.enc]
    refine ⟨_,_,oC _,?_⟩
    simp
   ·have hlt' : ¬ (s1.at_ : Int) < (l.length : Int):=by omega
    rw [List.getElem?_eq_none (by omega)] at hf
    simp only [Option.some.injEq,Prod.mk.injEq] at hf
    obtain ⟨rfl,rfl⟩:=hf
    simp [hlt',hbad]
    refine ⟨_,_,oC _,?_⟩
    simp
  | false =>
   rw [hbad,if_neg (by simp)] at hf
   have hgo' : ¬ ((s1.at_ : Int) < (l.length : Int)):=by
    intro h
    exact hgo ⟨by omega,hbad⟩
   by_cases hful : s1.full = true
   ·rw [if_pos (.inl hful)] at hf
    cases hf
    simp [hgo',hbad,hful]
    refine ⟨_,_,oC _,?_⟩
    simp
   ·have hful' : s1.full = false:=by simpa using hful
    obtain ⟨hpS,hpd⟩:=hp hbad hful'
    have dC:=fun S=>depthAC p hpS hpd S
    by_cases h30 : 30 < p.length
    ·rw [if_pos (.inr h30)] at hf
     cases hf
     have h30' : (30 : Int) < (p.length : Int):=by omega
     simp [hgo',hbad,hful',h30']
     refine ⟨_,_,oC _,?_⟩
     simp
    ·have h30' : ¬ (30 : Int) < (p.length : Int):=by omega
     rw [if_neg (by rw [hful']; simp; omega)] at hf
     split at hf
     ·rename_i hd
      cases hf
      have hd' : (40 : Int) < (itsDeep p : Int):=by omega
      simp [hgo',hbad,hful',h30']
      refine ⟨_,_,ADet.sub (.cons (.agg (.cons (.osl (.refl _)) (.refl _))) (.refl _)) (dC _),?_⟩
      simp [hd']
      refine ⟨_,_,oC _,?_⟩
      simp
     ·cases hf
theorem programQT (n : Nat) (hn : n ≤ 100000) (s : ByteArray) (l : List Tok) (aC : ∀ S,ADet Tryd.prog 6 [Sg s] S (.tup [.p (.sl 3 (l.map Tok.enc)),I 0,I 0]) S) (hll : l.length ≤ 1500) (p : List It) (s1 : RS) (hit : itemsQ l n n [] ⟨0,false,false⟩ = some (p,s1)) (hend : ¬ (s1.bad = true ∨ s1.full = true ∨ 30 < p.length)) (hp : PrSm p) (hd : itsDeep p ≤ 40) (S : ASt) : ADet Tryd.prog 5 [Sg s] S (.tup [.agg [.p (prog p)],nilS]) S:=by
 have hbad : s1.bad = false:=by cases hb : s1.bad with | false=>rfl | true=>simp [hb] at hend
 have hful : s1.full = false:=by cases hb : s1.full with | false=>rfl | true=>simp [hb] at hend
 have h30 : p.length ≤ 30:=by have : ¬ 30 < p.length:=fun h=>hend (.inr (.inr h)); omega
 have h30' : ¬ (30 : Int) < (p.length : Int):=by omega
 have dC:=fun S=>depthAC p hp (by omega) S
 have hd' : ¬ (40 : Int) < (itsDeep p : Int):=by omega
 have hl15 : l.length ≤ 1500:=by omega
 refine ADet.intro mixed Tryd.call5 Tryd.func5 rfl ?_
 simp [Tryd.ntmps5]
 refine ⟨_,_,aC _,?_⟩
 simp
 refine awp_loopG 48 16 (by decide) [.cells [.any] 25,rdO l ⟨0,false,false⟩,.cells [.osl 16 [] 0 3] 25] (fun a : Nat × List It × RS=>itemsQ l n a.1 a.2.1 a.2.2 = some (p,s1) ∧ a.2.1.length + a.1 ≤ n ∧ a.2.2.at_ ≤ l.length) (fun a=>([Sg s,.any,.ptr 0 0 0,.any,.p (.sl 3 (l.map Tok.enc)),.any,.any,.ptr 0 1 0,.ptr 0 2 0] ++ List.replicate 89 .any)) (fun a=>[.cells [.any] 25,rdO l a.2.2,.cells [.osl 16 (a.2.1.map It.enc) 0 3] 25,.tok 48 16 a.2.1.length] :: S) (fun a=>a.1) (n,[],⟨0,false,false⟩) ⟨hit,by simp,Nat.zero_le _⟩ ?_ ?_ ?_ ?_
 ·simp
 ·simp
 ·rfl
 rintro ⟨k,acc,s4⟩ ⟨hl,hkn,hs4⟩
 simp only at hl hkn hs4
 cases k with
 | zero=>simp [itemsQ] at hl
 | succ k =>
 unfold itemsQ at hl
 split at hl
 ·rename_i hgo
  split at hl
  ·cases hl
  rename_i x s5 hx
  obtain ⟨xC,hs5⟩:=itemQW hn (by omega) hs4 hx
  have hlt' : (s4.at_ : Int) < (l.length : Int):=by omega
  have hap : acc.length + 1 ≤ 4294967296:=by omega
  simp [hlt',hgo.2]
  refine awp_draw [(1,3),(1,4)] (by kernel_rfl) (by kernel_rfl) ?_
  simp
  refine ⟨_,_,xC _ 0 1 ⟨rfl,hs4,hl15⟩,?_⟩
  simp [hap]
  exact ⟨k,acc ++ [x],s5,⟨hl,by simp; omega,hs5⟩,by omega,⟨by simp,by simp; rfl⟩⟩
 ·rename_i hgo
  cases hl
  have hgo' : ¬ ((s1.at_ : Int) < (l.length : Int)):=by
   intro h
   exact hgo ⟨by omega,hbad⟩
  simp [hgo',hbad,hful,h30']
  refine ⟨_,_,ADet.sub (.cons (.agg (.cons (.osl (.refl _)) (.refl _))) (.refl _)) (dC _),?_⟩
  simp [hd',prog]
def Refu (s : ByteArray) : Prop:=∃ (e a : Int) (l : List Tok) (x y : Int),(∀ S,ADet Tryd.prog 5 [Sg s] S (.tup [noneP,oneP e a]) S) ∧ (∀ S,ADet Tryd.prog 6 [Sg s] S (.tup [.p (.sl 3 (l.map Tok.enc)),I x,I y]) S) ∧ l.length ≤ 1500 ∧ (a = 0 ∨ a = (s.size : Int) ∨ e = 20 ∨ tokB l a = true)
def Read (s : ByteArray) : Prop:=∃ (p : List It) (l : List Tok),(∀ S,ADet Tryd.prog 5 [Sg s] S (.tup [.agg [.p (prog p)],nilS]) S) ∧ (∀ S,ADet Tryd.prog 6 [Sg s] S (.tup [.p (.sl 3 (l.map Tok.enc)),I 0,I 0]) S) ∧ l.length ≤ 1500 ∧ PrSm p ∧ Its.at_ l (-1) p
theorem all_nil {s : ByteArray} {S : ASt} {x y : Int} (h : ADet Tryd.prog 6 [Sg s] S (.tup [nilS,I x,I y]) S) : ADet Tryd.prog 6 [Sg s] S (.tup [.p (.sl 3 (([] : List Tok).map Tok.enc)),I x,I y]) S:=h.lessT (.cons (.p (.nil 3)) (.refl _))
theorem programET (s : ByteArray) (a e : Int) (he : e ≠ 0) (aC : ∀ S,ADet Tryd.prog 6 [Sg s] S (.tup [nilS,I a,I e]) S) (S : ASt) : ADet Tryd.prog 5 [Sg s] S (.tup [noneP,oneP e a]) S:=by
 have oC:=oneRC e a
 refine refuse_le ?_
 unfold oneP
 refine ADet.intro mixed Tryd.call5 Tryd.func5 rfl ?_
 simp [Tryd.ntmps5]
 refine ⟨_,_,aC _,?_⟩
 simp [he]
 refine ⟨_,_,oC _,?_⟩
 simp
theorem any_text (s : ByteArray) (hs : s.size ≤ 5000) : Refu s ∨ Read s:=by
 by_cases hlong : 4000 < s.size
 ·have aC:=fun S=>allLongC s hlong S
  exact .inl ⟨3,0,[],0,3,fun S=>programET s 0 3 (by decide) aC S,fun S=>all_nil (aC S),Nat.zero_le _,.inl rfl⟩
 have hs4 : s.size ≤ 4000:=by omega
 have aC:=fun S=>allT s hs4 S
 have hok:=tokT_ok s hs4
 have hsm:=tokT_sm s hs4
 generalize tokT s = l at *
 generalize errT s = er at *
 cases er with
 | some e =>
  exact .inl ⟨20,e,[],e,20,fun S=>programET s e 20 (by decide) aC S,fun S=>all_nil (aC S),Nat.zero_le _,.inr (.inr (.inl rfl))⟩
 | none =>
 unfold allR at aC
 by_cases hl : l.length ≤ 1500
 ·simp only [if_pos hl] at aC
  have hsm:=hsm hl
  obtain ⟨p,s1,hit,hfw,hend⟩:=items_tot hok.num 30040 1501 (by decide) 30040 [] ⟨0,false,false⟩ (Nat.zero_le _) (by
   rw [mu_good rfl]
   show l.length - 0 + 1 < 30040
   omega) (by
   rw [mu_good rfl]
   show l.length - 0 + 1 ≤ 1501
   omega)
  have hpS:=read_sm hsm hok.num 30040 (by decide) 30040 hit
  obtain ⟨hdp,hat⟩:=read_go hok.asc hit
  cases hr : refuseQ l s p s1 with
  | some x =>
   obtain ⟨e,a⟩:=x
   have hra:=refuse_at hr
   refine .inl ⟨e,a,l,0,0,fun S=>programGT 30040 (by decide) s hs4 l aC hl p s1 hit (fun _ _=>⟨hpS,by omega⟩) e a hr S,aC,hl,?_⟩
   rcases hra with h | h | h
   ·exact .inl h
   ·exact .inr (.inl h)
   ·exact .inr (.inr (.inr h))
  | none =>
   unfold refuseQ at hr
   split at hr
   ·cases hr
   rename_i hbad
   split at hr
   ·cases hr
   rename_i hful
   split at hr
   ·cases hr
   rename_i hd
   have hb : s1.bad = false:=by simpa using hbad
   exact .inr ⟨p,l,fun S=>programQT 30040 (by decide) s l aC hl p s1 hit (fun h=>h.elim hbad hful) hpS (by omega) S,aC,hl,hpS,hat hb⟩
 ·simp only [if_neg hl] at aC
  exact .inl ⟨4,0,[],0,4,fun S=>programET s 0 4 (by decide) aC S,fun S=>all_nil (aC S),Nat.zero_le _,.inl rfl⟩
end Go.Proofs.YtfiohepfohhibaaDoor
namespace Go.Proofs.YtfiohepfohhibaaDoor
open Go.RowKit
attribute [local simp] List.replicate List.range List.range.loop resA resOne retA AV.cuts AV.cut AObj.cut trim wkR wkT wkL wkN wkNR wkNL wkM wkMR wkML
theorem tokenC (l : List Tok) (hl : l.length ≤ 1500) (q : Int) (S : ASt) : ADet Tryd.prog 7 [.p (.sl 3 (l.map Tok.enc)),I q] S (B (tokB l q)) S:=by
 refine ADet.intro mixed Tryd.call7 Tryd.func7 rfl ?_
 simp [Tryd.ntmps7]
 refine awp_loop (fun i : Nat=>i ≤ l.length ∧ tokB (l.drop i) q = tokB l q) (fun i=>([.p (.sl 3 (l.map Tok.enc)),I q,.any,.any,.any,I i] ++ List.replicate 13 .any)) (fun i=>[] :: S) (fun i=>l.length - i) 0 ⟨Nat.zero_le _,rfl⟩ ?_ ?_ ?_
 ·simp
 ·simp
 rintro i ⟨hi,he⟩
 by_cases hlt : i < l.length
 ·have hlt' : (i : Int) < (l.length : Int):=by omega
  have hw:=wrap_succ hlt (by unfold maxLen; omega)
  have hd : l.drop i = l[i] :: l.drop (i + 1):=List.drop_eq_getElem_cons hlt
  rw [hd] at he
  generalize hx : l[i] = x at *
  have he2 : ((x.pos : Int) == q || tokB (l.drop (i + 1)) q) = tokB l q:=he
  cases hq : ((x.pos : Int) == q) with
  | true =>
   rw [hq,Bool.true_or] at he2
   have hq' : (x.pos : Int) = q:=by simpa using hq
   simp [hlt,hlt',hx,Tok.enc,hq',← he2]
  | false =>
   rw [hq,Bool.false_or] at he2
   have hq' : ¬ (x.pos : Int) = q:=by simpa using hq
   simp [hlt,hlt',hx,Tok.enc,hq',hq]
   exact ⟨i + 1,⟨hlt,he2⟩,by omega,hw⟩
 ·have hlt' : ¬ (i : Int) < (l.length : Int):=by omega
  rw [List.drop_of_length_le (by omega)] at he
  have he2 : false = tokB l q:=he
  simp [hlt',← he2]
theorem exs_mem {l : List Tok} : ∀ {xs : List Ex},Ex.atBs l xs = true → ∀ x ∈ xs,Ex.atB l x = true
 | [],_=>nofun
 | y :: r,h=>fun x hx=>by
  rw [Ex.atBs,Bool.and_eq_true] at h
  rcases List.mem_cons.1 hx with rfl | hx
  ·exact h.1
  ·exact exs_mem h.2 x hx
theorem ars_mem {l : List Tok} {q : Int} : ∀ {xs : List Ar},Ar.atBs l q xs = true → ∀ x ∈ xs,St.atBs l q x.body = true
 | [],_=>nofun
 | ⟨v,nm,b⟩ :: r,h=>fun x hx=>by
  rw [Ar.atBs,Bool.and_eq_true] at h
  rcases List.mem_cons.1 hx with rfl | hx
  ·exact h.1
  ·exact ars_mem h.2 x hx
theorem ex_parts {l : List Tok} {e : Ex} (h : Ex.atB l e = true) : (∀ x ∈ e.args,Ex.atB l x = true) ∧ tokB l e.pos = true:=by
 obtain ⟨op,int,nm,sc,pl,xs,pos⟩:=e
 rw [Ex.atB,Bool.and_eq_true] at h
 exact ⟨exs_mem h.1,h.2⟩
theorem st_parts {l : List Tok} {q : Int} {s : St} (h : St.atB l q s = true) : q < s.pos ∧ tokB l s.pos = true ∧ (∀ x ∈ s.exprs,Ex.atB l x = true) ∧ (∀ a ∈ s.arms,St.atBs l s.pos a.body = true) ∧ St.atBs l s.pos s.body = true ∧ St.atBs l s.pos s.els = true:=by
 obtain ⟨op,nm,sc,ns,t,int,pl,es,b,el,ar,pos⟩:=s
 rw [St.atB] at h
 simp only [Bool.and_eq_true,decide_eq_true_eq] at h
 obtain ⟨h1,h2,h3,h4,h5,h6⟩:=h
 exact ⟨h1,h2,exs_mem h3,ars_mem h4,h5,h6⟩
theorem exprAtC (l : List Tok) (hl : l.length ≤ 1500) : ∀ (e : Ex),Ex.atB l e = true → ∀ (S : ASt),ADet Tryd.prog 8 [.p (.sl 3 (l.map Tok.enc)),exV e] S (B true) S:=by
 refine Ex.ind fun t ih ha S=>?_
 obtain ⟨ha1,ha2⟩:=ex_parts ha
 have tC:=fun S=>tokenC l hl t.pos S
 rw [ha2] at tC
 refine ADet.okA Tryd.call8 1 6 rfl rfl fun hok=>?_
 have hlen:=okl hok
 refine ADet.intro mixed Tryd.call8 Tryd.func8 rfl ?_
 simp [Tryd.ntmps8]
 refine awp_loop (fun q : Nat=>q ≤ t.args.length) (fun q=>([.p (.sl 3 (l.map Tok.enc)),.any,.any,.ptr 0 0 0,.any,I q] ++ List.replicate 19 .any)) (fun q=>[.cells [U t.op,I t.int,Sg t.name,Sg t.second,Sg t.place.name,.p (strs t.place.path),.p (.sl 8 (t.args.map Ex.enc)),I t.pos] 46] :: S) (fun q=>t.args.length - q) 0 (Nat.zero_le _) ?_ ?_ ?_
 ·simp
 ·simp
 intro q hq
 by_cases hlt : q < t.args.length
 ·have hx:=ih _ (List.getElem_mem hlt) (ha1 _ (List.getElem_mem hlt))
  have hlt' : (q : Int) < (t.args.length : Int):=by omega
  generalize he : t.args[q] = x at *
  simp [hlt,hlt',he,exEnc]
  refine ⟨_,_,hx _,?_⟩
  simp
  exact ⟨q + 1,hlt,by omega,wrap_succ hlt⟩
 ·have hlt' : ¬ (q : Int) < (t.args.length : Int):=by omega
  simp [hlt']
  refine ⟨_,_,tC _,?_⟩
  simp
def StsC (l : List Tok) (b : List St) : Prop:=b.length ≤ 20000 → (∀ x ∈ b,StSm x) → ∀ q,St.atBs l q b = true → ∀ (S : ASt),ADet Tryd.prog 9 [.p (.sl 3 (l.map Tok.enc)),.p (.sl 15 (b.map St.enc)),I q] S (B true) S
def StC (l : List Tok) (s : St) : Prop:=StsC l s.body ∧ StsC l s.els ∧ ∀ a ∈ s.arms,StsC l a.body
theorem stmtsAt (l : List Tok) (hl : l.length ≤ 1500) (b : List St) (hK : ∀ x ∈ b,StC l x) : StsC l b:=by
 intro hlen hsm at0 hat S
 refine ADet.intro mixed Tryd.call9 Tryd.func9 rfl ?_
 simp [Tryd.ntmps9]
 refine awp_loop (fun a : Nat × Int=>a.1 ≤ b.length ∧ St.atBs l a.2 (b.drop a.1) = true) (fun a=>([.p (.sl 3 (l.map Tok.enc)),.p (.sl 15 (b.map St.enc)),I a.2,.any,.any,.any,.any,I a.1] ++ List.replicate 72 .any)) (fun a=>[] :: S) (fun a=>b.length - a.1) (0,at0) ⟨Nat.zero_le _,hat⟩ ?_ ?_ ?_
 ·simp
 ·simp
 rintro ⟨i,q⟩ ⟨hi,hA⟩
 simp only at hi hA
 by_cases hlt : i < b.length
 ·have hlt' : (i : Int) < (b.length : Int):=by omega
  have hw:=wrap_succ hlt (by unfold maxLen; omega)
  have hd : b.drop i = b[i] :: b.drop (i + 1):=List.drop_eq_getElem_cons hlt
  rw [hd,St.atBs,Bool.and_eq_true] at hA
  obtain ⟨hA1,hA2⟩:=hA
  have hS:=hsm _ (List.getElem_mem hlt)
  obtain ⟨K1,K2,K3⟩:=hK _ (List.getElem_mem hlt)
  generalize hx : b[i] = s at *
  obtain ⟨p1,p2,p3,p4,p5,p6⟩:=st_parts hA1
  obtain ⟨⟨k1,k2,k3,k4⟩,k5,k6⟩:=kids_ok hS
  have hkb : ∀ x ∈ s.body,StSm x:=fun x hx=>k6 x (List.mem_append_left _ hx)
  have hke : ∀ x ∈ s.els,StSm x:=fun x hx=>k6 x (List.mem_append_right _ (List.mem_append_left _ hx))
  have hka : ∀ c ∈ s.arms,∀ x ∈ c.body,StSm x:=fun c hc x hx=>k6 x (List.mem_append_right _ (List.mem_append_right _ (List.mem_flatMap.2 ⟨c,hc,hx⟩)))
  have tC:=fun S=>tokenC l hl s.pos S
  rw [p2] at tC
  have bC:=K1 k1 hkb s.pos p5
  have lC:=K2 k2 hke s.pos p6
  have hq' : ¬ s.pos ≤ q:=by omega
  simp [hlt,hlt',hx,stEnc,hq']
  refine ⟨_,_,tC _,?_⟩
  simp
  refine awp_loop (fun k : Nat=>k ≤ s.exprs.length) (fun k=>([.p (.sl 3 (l.map Tok.enc)),.p (.sl 15 (b.map St.enc)),I s.pos,.any,.any,.any,.any,I i,.ptr 0 0 0,I k] ++ List.replicate 70 .any)) (fun k=>[.cells (stU s) 65] :: S) (fun k=>s.exprs.length - k) 0 (Nat.zero_le _) ?_ ?_ ?_
  ·simp
  ·simp
  intro k hk
  by_cases hkt : k < s.exprs.length
  ·have hkt' : (k : Int) < (s.exprs.length : Int):=by omega
   have hwk:=wrap_succ hkt (by unfold maxLen; omega)
   have eC:=exprAtC l hl _ (p3 _ (List.getElem_mem hkt))
   generalize he : s.exprs[k] = e at *
   simp [hkt,hkt',he,exEnc]
   refine ⟨_,_,eC _,?_⟩
   simp
   exact ⟨k + 1,hkt,by omega,hwk⟩
  ·have hkt' : ¬ (k : Int) < (s.exprs.length : Int):=by omega
   simp [hkt']
   refine awp_loop (fun m : Nat=>m ≤ s.arms.length) (fun m=>([.p (.sl 3 (l.map Tok.enc)),.p (.sl 15 (b.map St.enc)),I s.pos,.any,.any,.any,.any,I i,.ptr 0 0 0,.any,I m] ++ List.replicate 69 .any)) (fun m=>[.cells (stU s) 65] :: S) (fun m=>s.arms.length - m) 0 (Nat.zero_le _) ?_ ?_ ?_
   ·simp
   ·simp
   intro m hm
   by_cases hmt : m < s.arms.length
   ·have hmt' : (m : Int) < (s.arms.length : Int):=by omega
    have hwm:=wrap_succ hmt (by unfold maxLen; omega)
    have hmem:=List.getElem_mem hmt
    have aC:=K3 _ hmem (k4 _ hmem) (hka _ hmem) s.pos (p4 _ hmem)
    generalize he : s.arms[m] = a at *
    simp [hmt,hmt',he,Ar.enc]
    refine ⟨_,_,aC _,?_⟩
    simp
    exact ⟨m + 1,hmt,by omega,hwm⟩
   ·have hmt' : ¬ (m : Int) < (s.arms.length : Int):=by omega
    simp [hmt']
    refine ⟨_,_,bC _,?_⟩
    simp
    refine ⟨_,_,lC _,?_⟩
    simp
    exact ⟨i + 1,s.pos,⟨hlt,hA2⟩,by omega,rfl,hw⟩
 ·have hlt' : ¬ (i : Int) < (b.length : Int):=by omega
  simp [hlt']
theorem stC_any (l : List Tok) (hl : l.length ≤ 1500) : ∀ s : St,StC l s:=St.ind fun s i1 i2 i3=>⟨stmtsAt l hl _ i1,stmtsAt l hl _ i2,fun a ha=>stmtsAt l hl _ (i3 a ha)⟩
theorem stsC_any (l : List Tok) (hl : l.length ≤ 1500) (b : List St) : StsC l b:=stmtsAt l hl b fun x _=>stC_any l hl x
end Go.Proofs.YtfiohepfohhibaaDoor
namespace Go.Proofs.YtfiohepfohhibaaDoor
open Go.RowKit
attribute [local simp] List.replicate List.range List.range.loop resA resOne retA AV.cuts AV.cut AObj.cut trim wkR wkT wkL wkN wkNR wkNL wkM wkMR wkML virtL virtO virt_get markL markO markR_get rowA awpI_nil awpI_cons List.forall_mem_cons List.contains_cons List.contains_nil List.find? nextD_eq awpD_nil awpD_cons LCp LCl refL
theorem parsePlacesC (s : ByteArray) (S : ASt) : ADet Tryd.prog 3 [Sg s] S (B true) S:=by
 have wC:=awake05C
 by_cases hs0 : 5000 < s.size
 ·have hs' : (5000 : Int) < (s.size : Int):=by omega
  refine ADet.intro mixed Tryd.call3 Tryd.func3 rfl ?_
  simp [Tryd.ntmps3]
  refine ⟨_,_,wC _,?_⟩
  simp [hs']
 have hs : s.size ≤ 5000:=by omega
 have hs' : ¬ (5000 : Int) < (s.size : Int):=by omega
 rcases any_text s hs with ⟨e,a,l,x,y,pC,lC,hl,h⟩ | ⟨p,l,pC,lC,hl,hsm,hat⟩
 ·have tC:=fun S=>tokenC l hl a S
  simp only [noneP,oneP] at pC
  refine ADet.introS Tryd.call3 Tryd.func3 rfl ?_
  refine SWP.seq (SWP.of_awp mixed ?_)
  simp [Tryd.ntmps3,seqS_normal]
  refine SWP.seq (SWP.of_awp mixed ?_)
  simp
  refine ⟨_,_,wC _,?_⟩
  simp [seqS_normal]
  refine SWP.seq (SWP.of_awp mixed ?_)
  simp [seqS_normal,hs']
  refine SWP.seq (SWP.of_awp mixed ?_)
  simp
  refine ⟨_,_,pC _,?_⟩
  simp [seqS_normal]
  refine SWP.seq (SWP.of_awp mixed ?_)
  simp
  refine ⟨_,_,lC _,?_⟩
  simp [seqS_normal]
  refine SWP.seq (SWP.of_awp mixed ?_)
  by_cases h0 : a = 0
  ·subst h0
   simp [seqS_ret]
  have h0b : (a == 0) = false:=by simpa using h0
  by_cases h1 : a = (s.size : Int)
  ·have h1b : (a == (s.size : Int)) = true:=by simpa using h1
   simp [h0,h0b,h1b,seqS_ret]
  have h1b : (a == (s.size : Int)) = false:=by simpa using h1
  by_cases h2 : e = 20
  ·subst h2
   simp [h0,h1,h0b,h1b,seqS_ret]
  have h2b : (e == 20) = false:=by simpa using h2
  have h3 : tokB l a = true:=by rcases h with h | h | h | h; exact absurd h h0; exact absurd h h1; exact absurd h h2; exact h
  rw [h3] at tC
  simp [h0,h1,h2,h0b,h1b,h2b]
  refine ⟨_,_,tC _,?_⟩
  simp [seqS_ret]
 ·have hlen:=hsm.1
  have pC : ∀ S,ADet Tryd.prog 5 [Sg s] S (.tup [.agg [.p (.sl 16 (p.map It.enc))],.p (.sl 2 [])]) S:=fun S=>(pC S).lessT (.cons (.refl _) (.cons (.p (.nil 2)) (.refl _)))
  refine ADet.intro mixed Tryd.call3 Tryd.func3 rfl ?_
  simp [Tryd.ntmps3]
  refine ⟨_,_,wC _,?_⟩
  simp [hs']
  refine ⟨_,_,pC _,?_⟩
  simp
  refine ⟨_,_,lC _,?_⟩
  simp
  refine awp_loop (fun i : Nat=>i ≤ p.length) (fun i=>([Sg s,.any,.any,.ptr 0 0 0,.any,.p (.sl 3 (l.map Tok.enc)),.any,.any,I i] ++ List.replicate 103 .any)) (fun i=>[.cells [.p (.sl 16 (p.map It.enc))] 25] :: S) (fun i=>p.length - i) 0 (Nat.zero_le _) ?_ ?_ ?_
  ·simp
  ·simp
  intro i hi
  by_cases hlt : i < p.length
  ·have hlt' : (i : Int) < (p.length : Int):=by omega
   have hw:=wrap_succ hlt (by unfold maxLen; omega)
   have hmem:=List.getElem_mem hlt
   obtain ⟨g1,g2⟩:=its_get hat i _ (List.getElem?_eq_getElem hlt)
   have hS:=hsm.2 _ hmem
   unfold It.atB at g1
   simp only [Bool.and_eq_true] at g1
   obtain ⟨t1,t2,t3⟩:=g1
   generalize hx : p[i] = x at *
   have tC:=fun S=>tokenC l hl x.pos S
   rw [t1] at tC
   have bC:=stsC_any l hl x.body hS.2.2.2.1.1 hS.2.2.2.1.2 x.pos t3
   have eC : x.kind = 3 → ∀ S,ADet Tryd.prog 8 [.p (.sl 3 (l.map Tok.enc)),exV x.ret] S (B true) S:=fun hk=>exprAtC l hl x.ret (by
    have : (x.kind != 3) = false:=by rw [hk]; rfl
    rw [this,Bool.false_or] at t2
    exact t2)
   simp [hlt,hlt',hx,It.enc]
   refine awp_draw [] (by kernel_rfl) (by kernel_rfl) ?_
   by_cases hi0 : 0 < i
   ·have hi0' : (0 : Int) < (i : Int):=by omega
    have hwi : IntKind.i64.wrap ((i : Int) - 1) = ((i - 1 : Nat) : Int):=by rw [IntWalk.i64_in _ (by omega)]; omega
    have hip : i - 1 < p.length:=by omega
    have hpp:=g2 p[i - 1] hi0 (List.getElem?_eq_getElem hip)
    have hpp' : ¬ x.pos ≤ p[i - 1].pos:=by omega
    obtain ⟨j,hj⟩ : ∃ j,j = i - 1:=⟨_,rfl⟩
    simp only [← hj] at hwi hip hpp hpp'
    generalize hy : p[j] = y at *
    have hip' : (j : Int) < (p.length : Int):=by omega
    by_cases hk : x.kind = 3
    ·have eC:=eC hk
     simp
     refine ⟨_,_,tC _,?_⟩
     simp [hi0,hi0',hwi,hip,hip',hy,It.enc,hpp',hk]
     refine ⟨_,_,eC _,?_⟩
     simp
     refine ⟨_,_,bC _,?_⟩
     simp
     exact ⟨i + 1,hlt,by omega,hw⟩
    ·have hkb : (x.kind == 3) = false:=by simpa using hk
     simp
     refine ⟨_,_,tC _,?_⟩
     simp [hi0,hi0',hwi,hip,hip',hy,It.enc,hpp',hk,hkb]
     refine ⟨_,_,bC _,?_⟩
     simp
     exact ⟨i + 1,hlt,by omega,hw⟩
   ·have hi0' : ¬ (0 : Int) < (i : Int):=by omega
    have hi00 : i = 0:=by omega
    by_cases hk : x.kind = 3
    ·have eC:=eC hk
     simp
     refine ⟨_,_,tC _,?_⟩
     simp [hi0,hi0',hk]
     refine ⟨_,_,eC _,?_⟩
     simp
     refine ⟨_,_,bC _,?_⟩
     simp
     exact ⟨i + 1,hlt,by omega,hw⟩
    ·have hkb : (x.kind == 3) = false:=by simpa using hk
     simp
     refine ⟨_,_,tC _,?_⟩
     simp [hi0,hi0',hk,hkb]
     refine ⟨_,_,bC _,?_⟩
     simp
     exact ⟨i + 1,hlt,by omega,hw⟩
  ·have hlt' : ¬ (i : Int) < (p.length : Int):=by omega
   simp [hlt']
end Go.Proofs.YtfiohepfohhibaaDoor
