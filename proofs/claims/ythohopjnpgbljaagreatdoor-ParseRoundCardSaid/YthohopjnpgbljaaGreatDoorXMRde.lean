/- A part of the proof. The statement is proved in the claim's last text. -/
import Derived.Test.YthohopjnpgbljaaGreatDoorXMRda
set_option linter.unusedVariables false
set_option linter.unusedSimpArgs false
set_option maxRecDepth 100000
set_option maxHeartbeats 32000000
namespace Go.Proofs.YthohopjnpgbljaaGreatDoor
open Go.RowKit
theorem no_args {e : Ex} (h : (e.args.length : Int) ≤ shM e.op) (h0 : shM e.op = 0) : e.args = []:=List.eq_nil_of_length_eq_zero (by omega)
theorem one_arg {e : Ex} (h1 : shL e.op ≤ e.args.length) (h2 : (e.args.length : Int) ≤ shM e.op) (h3 : shL e.op = 1) (h4 : shM e.op = 1) : ∃ a,e.args = [a]:=by
 match h : e.args with
 | []=>rw [h] at h1; simp at h1; omega
 | [a]=>exact ⟨a,rfl⟩
 | a :: b :: r=>rw [h] at h2; simp at h2; omega
theorem no_place {e : Ex} (h : placedB e.op e.place e.args.length (shP e.op) = true) (h1 : shP e.op = false) (h2 : e.op ≠ 19) : e.place = zeroPl:=by
 unfold placedB at h
 rw [h1,if_neg (by simp),if_neg h2] at h
 exact noPl_eq h
theorem a_place {e : Ex} (h : placedB e.op e.place e.args.length (shP e.op) = true) (h1 : shP e.op = true) : e.place.whole = true:=by
 unfold placedB at h
 rwa [h1,if_pos rfl] at h
theorem lab_none {e : Ex} (h : labB e.op e.int e.name e.second = true) (h1 : e.op ≠ 18 ∧ e.op ≠ 19 ∧ e.op ≠ 20) : e.name = emS ∧ e.second = emS:=by
 unfold labB at h
 simp only [Bool.and_eq_true] at h
 rw [if_neg h1.1,if_neg (by omega),if_neg h1.2.2] at h
 exact ⟨emS_eq h.1.1,emS_eq h.1.2⟩
theorem lab_int {e : Ex} (h : labB e.op e.int e.name e.second = true) (h1 : e.op ≠ 1 ∧ e.op ≠ 2) : e.int = 0:=by
 unfold labB at h
 simp only [Bool.and_eq_true] at h
 rw [if_neg h1.1,if_neg h1.2] at h
 simpa using h.2
theorem commas_mem {a : List ByteArray} : ∀ {xs : List (List ByteArray)},a ∈ xs → a.length ≤ (commas xs).length
 | x :: xs,h=>by
  have e : (commas (x :: xs)).length = x.length + (xs.flatMap fun x=>(⟨#[44]⟩ : ByteArray) :: x).length:=by rw [commas,List.length_append]
  rcases List.mem_cons.1 h with rfl | h
  ·omega
  ·have : ∀ ys : List (List ByteArray),a ∈ ys → a.length ≤ (ys.flatMap fun x=>(⟨#[44]⟩ : ByteArray) :: x).length:=fun ys hy=>by
    induction ys with
    | nil=>cases hy
    | cons y ys ih =>
     rw [List.flatMap_cons,List.length_append,List.length_cons]
     rcases List.mem_cons.1 hy with rfl | hy
     ·omega
     ·have:=ih hy; omega
   have:=this xs h
   omega
theorem ex_int {l : List Tok} (hk : Kinds l) {e : Ex} (hF : ExF e) (hrg : ExRg e) (h1 : e.op = 1) {n : Nat} {rd : RS → Option (Ex × RS)} {r : List ByteArray} : Rd l (simpleQ l n rd) keyE [itoaB e.int] r (keyE e):=fun s hs=>by
 have h0 : AtR l s (itoaB e.int :: r):=hs
 have hi : 0 ≤ e.int:=by
  have:=hF.lab
  unfold labB at this
  simp only [Bool.and_eq_true] at this
  have h2:=this.2
  rw [if_pos h1] at h2
  simpa using h2
 have hr:=((exRg_iff e).1 hrg).1.2
 obtain ⟨pos,hq⟩:=simple_eq hk (n:=n) (rd:=rd) h0
 refine ⟨ex0 1 e.int emS [] pos,s.nx,?_,h0.next,rfl,?_⟩
 ·rw [hq,itoa_kind hi,if_pos rfl,itoa_num hi (by omega)]; rfl
 ·have hl:=lab_none hF.lab (by omega)
  rw [key_of h1 rfl hl.1 hl.2 (no_place hF.pl (by rw [h1]; rfl) (by omega)),no_args hF.high (by rw [h1]; rfl),key_mk]
theorem ex_bool {l : List Tok} (hk : Kinds l) {e : Ex} (hF : ExF e) (h2 : e.op = 2) {n : Nat} {rd : RS → Option (Ex × RS)} {r : List ByteArray} : Rd l (simpleQ l n rd) keyE [if e.int = 0 then (⟨#[102,97,108,115,101]⟩ : ByteArray) else (⟨#[116,114,117,101]⟩ : ByteArray)] r (keyE e):=fun s hs=>by
 have hl:=lab_none hF.lab (by omega)
 have hi : e.int = 0 ∨ e.int = 1:=by
  have:=hF.lab
  unfold labB at this
  simp only [Bool.and_eq_true] at this
  have h3:=this.2
  rw [if_neg (by omega),if_pos h2] at h3
  simpa using h3
 have hkey:=fun i (h : e.int = i)=>key_of h2 h hl.1 hl.2 (no_place hF.pl (by rw [h2]; rfl) (by omega))
 rw [no_args hF.high (by rw [h2]; rfl)] at hkey
 rcases hi with hi | hi
 ·rw [hi,if_pos rfl] at hs
  have h0 : AtR l s ((⟨#[102,97,108,115,101]⟩ : ByteArray) :: r):=hs
  obtain ⟨pos,hq⟩:=simple_eq hk (n:=n) (rd:=rd) h0
  refine ⟨ex0 2 0 emS [] pos,s.nx,?_,h0.next,rfl,by rw [hkey 0 hi,key_mk]⟩
  rw [hq,show kindT (⟨#[102,97,108,115,101]⟩ : ByteArray) = 1 by kernel_rfl,if_neg (by decide),if_neg (by decide),if_neg (by decide),show findK (⟨#[102,97,108,115,101]⟩ : ByteArray) callK = none by kernel_rfl]
  simp only
  rw [h0.is,show sEq (⟨#[102,97,108,115,101]⟩ : ByteArray) (⟨#[116,114,117,101]⟩ : ByteArray) = false by kernel_rfl,if_neg (by simp),h0.is,sEq_self,if_pos rfl,h0.may]
 ·rw [hi,if_neg (by decide)] at hs
  have h0 : AtR l s ((⟨#[116,114,117,101]⟩ : ByteArray) :: r):=hs
  obtain ⟨pos,hq⟩:=simple_eq hk (n:=n) (rd:=rd) h0
  refine ⟨ex0 2 1 emS [] pos,s.nx,?_,h0.next,rfl,by rw [hkey 1 hi,key_mk]⟩
  rw [hq,show kindT (⟨#[116,114,117,101]⟩ : ByteArray) = 1 by kernel_rfl,if_neg (by decide),if_neg (by decide),if_neg (by decide),show findK (⟨#[116,114,117,101]⟩ : ByteArray) callK = none by kernel_rfl]
  simp only
  rw [h0.is,sEq_self,if_pos rfl,h0.may]
theorem ex_unit {l : List Tok} (hk : Kinds l) {e : Ex} (hF : ExF e) (h3 : e.op = 3) {n : Nat} {rd : RS → Option (Ex × RS)} {r : List ByteArray} : Rd l (simpleQ l n rd) keyE [(⟨#[40]⟩ : ByteArray),(⟨#[41]⟩ : ByteArray)] r (keyE e):=fun s hs=>by
 have hl:=lab_none hF.lab (by omega)
 have h0 : AtR l s ((⟨#[40]⟩ : ByteArray) :: (⟨#[41]⟩ : ByteArray) :: r):=hs
 obtain ⟨pos,hq⟩:=simple_eq hk (n:=n) (rd:=rd) h0
 refine ⟨ex0 3 0 emS [] pos,s.nx.nx,?_,h0.next.next,rfl,by rw [key_of h3 (lab_int hF.lab (by omega)) hl.1 hl.2 (no_place hF.pl (by rw [h3]; rfl) (by omega)),no_args hF.high (by rw [h3]; rfl),key_mk]⟩
 rw [hq,show kindT (⟨#[40]⟩ : ByteArray) = 5 by kernel_rfl,if_neg (by decide),if_neg (by decide),if_neg (by decide),show findK (⟨#[40]⟩ : ByteArray) callK = none by kernel_rfl]
 simp only
 rw [h0.is,h0.is,show sEq (⟨#[40]⟩ : ByteArray) (⟨#[116,114,117,101]⟩ : ByteArray) = false by kernel_rfl,show sEq (⟨#[40]⟩ : ByteArray) (⟨#[102,97,108,115,101]⟩ : ByteArray) = false by kernel_rfl,if_neg (by simp),if_neg (by simp),h0.must,h0.next.is,sEq_self,if_pos rfl,h0.next.may]
theorem ex_use {l : List Tok} (hk : Kinds l) {e : Ex} (hF : ExF e) (h4 : e.op = 4) {n : Nat} {rd : RS → Option (Ex × RS)} {r : List ByteArray} (hr : okS r) (hn : e.place.path.length < n) : Rd l (simpleQ l n rd) keyE e.place.tk r (keyE e):=fun s hs=>by
 have hl:=lab_none hF.lab (by omega)
 have hp:=a_place hF.pl (by rw [h4]; rfl)
 have hpn : nameB e.place.name = true:=by unfold Pl.whole at hp; simp only [Bool.and_eq_true] at hp; exact hp.1
 have h0 : AtR l s (e.place.name :: (pathTk e.place.path ++ r)):=hs
 obtain ⟨pos,hq⟩:=simple_eq hk (n:=n) (rd:=rd) h0
 obtain ⟨y,s',e1,e2,e3,e4⟩:=place_rd hk hp hr.dot hn s hs
 have hi : isP l s (⟨#[40]⟩ : ByteArray) 1 = false:=by
  cases hpa : e.place.path with
  | nil =>
   rw [hpa] at h0
   have h1 : AtR l s (e.place.name :: r):=h0
   cases r with
   | nil=>exact h1.is1_nil _
   | cons t ts=>rw [h1.is1]; exact (hr t ts rfl).2
  | cons a p =>
   rw [hpa] at h0
   have h1 : AtR l s (e.place.name :: (⟨#[46]⟩ : ByteArray) :: (a :: (pathTk p ++ r))):=h0
   exact (h1.is1 _).trans (by kernel_rfl)
 refine ⟨.mk 4 0 emS emS y [] pos,s',?_,e2,e3,?_⟩
 ·rw [hq,kind_name hpn,if_neg (by decide),if_neg (by decide),if_pos rfl,hi,if_neg (by simp),e1]; rfl
 ·have : y = e.place:=e4
  rw [key_of h4 (lab_int hF.lab (by omega)) hl.1 hl.2 rfl,no_args hF.high (by rw [h4]; rfl),key_mk,this]
theorem args_len {e : Ex} (hF : ExF e) : e.args.length ≤ 6:=by
 have:=hF.high
 have : shM e.op ≤ 6:=by unfold shM; repeat' split; all_goals omega
 omega
theorem ex_call {l : List Tok} (hk : Kinds l) {e : Ex} (hF : ExF e) (h18 : e.op = 18) (ih : ∀ a ∈ e.args,lentOp a.op = false → Eb l a) {n : Nat} {r : List ByteArray} (hn : 10 * (e.name :: (⟨#[40]⟩ : ByteArray) :: (commas (e.args.map Ex.tk) ++ [(⟨#[41]⟩ : ByteArray)])).length ≤ n + 1) : Rd l (simpleQ l n (strongQ l n 6)) keyE (e.name :: (⟨#[40]⟩ : ByteArray) :: (commas (e.args.map Ex.tk) ++ [(⟨#[41]⟩ : ByteArray)])) r (keyE e):=fun s hs=>by
 have hlab:=hF.lab
 unfold labB at hlab
 simp only [Bool.and_eq_true] at hlab
 rw [if_pos h18,if_neg (by omega)] at hlab
 have hnm:=kind_name hlab.1.1
 have hsec:=emS_eq hlab.1.2
 have h0 : AtR l s (e.name :: (⟨#[40]⟩ : ByteArray) :: (commas (e.args.map Ex.tk) ++ [(⟨#[41]⟩ : ByteArray)] ++ r)):=hs
 simp only [List.length_cons,List.length_append,List.length_nil] at hn
 obtain ⟨pos,hq⟩:=simple_eq hk (n:=n) (rd:=strongQ l n 6) h0
 have hal:=args_len hF
 have hL:=list_rd (l:=l) (f:=lentQ l n (strongQ l n 6)) (key:=keyE) (e:=(⟨#[41]⟩ : ByteArray)) (by kernel_rfl) r (e.args.map fun a=>(a.tk,keyE a)) (fun x hx r0 hr0=>by
  obtain ⟨a,ha,rfl⟩:=List.mem_map.1 hx
  have hlen:=commas_mem (List.mem_map_of_mem (f:=Ex.tk) ha)
  refine lent_rd hk (hF.args a ha).2 (ih a ha) (by show 10 * a.tk.length + 6 ≤ n; omega) ?_
  obtain ⟨t,rfl | rfl⟩:=hr0
  ·exact okR_end 0 (by kernel_rfl)
  ·exact okR_end 0 (by kernel_rfl)) (fun x hx=>by
  obtain ⟨a,ha,rfl⟩:=List.mem_map.1 hx
  obtain ⟨t,ts,ht,hh⟩:=ex_head a (hF.args a ha).2
  exact ⟨t,ts,ht,hh.ne (by rw [show kindT (⟨#[41]⟩ : ByteArray) = 5 by kernel_rfl]; omega) (by kernel_rfl)⟩) (by simpa using hal) (n:=n) (by simp; omega) s.nx.nx (by
  have:=h0.next.next
  simpa [List.map_map,Function.comp_def] using this)
 obtain ⟨ys,s',e1,e2,e3,e4⟩:=hL
 refine ⟨ex0 18 0 e.name ys pos,s',?_,e2,e3,?_⟩
 ·rw [hq,hnm,if_neg (by decide),if_neg (by decide),if_pos rfl,h0.is1,sEq_self,if_pos rfl,h0.takeP hk hnm,h0.next.must,h0.takeT hk hnm,e1]; rfl
 ·rw [key_of h18 (lab_int hF.lab (by omega)) rfl hsec (no_place hF.pl (by rw [h18]; rfl) (by omega)),key_mk,e4]
  simp [List.map_map,Function.comp_def]
end Go.Proofs.YthohopjnpgbljaaGreatDoor
namespace Go.Proofs.YthohopjnpgbljaaGreatDoor
open Go.RowKit
theorem given_zip : ∀ (ns : List ByteArray) (es : List Ex),ns.length = es.length → givenTk ns (es.map Ex.tk) = (ns.zip es).map fun x=>x.1 :: (⟨#[61]⟩ : ByteArray) :: x.2.tk
 | [],[],_=>rfl
 | n :: ns,[],h=>by simp at h
 | [],e :: es,h=>by simp at h
 | n :: ns,e :: es,h=>by
  rw [List.map_cons,givenTk,given_zip ns es (by simpa using h)]; rfl
theorem zip_map1 {α β : Type} : ∀ (a : List α) (b : List β),a.length = b.length → (a.zip b).map Prod.fst = a
 | [],[],_=>rfl
 | x :: a,[],h=>by simp at h
 | [],y :: b,h=>by simp at h
 | x :: a,y :: b,h=>by rw [List.zip_cons_cons,List.map_cons,zip_map1 a b (by simpa using h)]
theorem zip_map2 {α β γ : Type} (f : β → γ) : ∀ (a : List α) (b : List β),a.length = b.length → (a.zip b).map (fun x=>f x.2) = b.map f
 | [],[],_=>rfl
 | x :: a,[],h=>by simp at h
 | [],y :: b,h=>by simp at h
 | x :: a,y :: b,h=>by rw [List.zip_cons_cons,List.map_cons,zip_map2 f a b (by simpa using h)]; rfl
abbrev keyH : ByteArray × Ex → ByteArray × Ex:=fun x=>(x.1,keyE x.2)
theorem hand_rd {l : List Tok} (hk : Kinds l) {rd : RS → Option (Ex × RS)} {nm : ByteArray} (hn : nameB nm = true) {tk r : List ByteArray} {x : Ex} (h : Rd l rd keyE tk r x) : Rd l (handQ l rd) keyH (nm :: (⟨#[61]⟩ : ByteArray) :: tk) r (nm,x):=fun s hs=>by
 have h0 : AtR l s (nm :: (⟨#[61]⟩ : ByteArray) :: (tk ++ r)):=hs
 obtain ⟨y,s',e1,e2,e3,e4⟩:=h s.nx.nx h0.next.next
 refine ⟨(nm,y),s',?_,e2,e3,by show (nm,keyE y) = _; rw [e4]⟩
 unfold handQ
 rw [h0.takeP hk (kind_name hn),h0.next.must,h0.takeT hk (kind_name hn),e1]; rfl
theorem ex_struct {l : List Tok} (hk : Kinds l) {e : Ex} (hF : ExF e) (h19 : e.op = 19) (ih : ∀ a ∈ e.args,lentOp a.op = false → Eb l a) {n : Nat} {r : List ByteArray} (hn : 10 * (e.name :: (⟨#[123]⟩ : ByteArray) :: (commas (givenTk e.place.path (e.args.map Ex.tk)) ++ [(⟨#[125]⟩ : ByteArray)])).length ≤ n + 1) : Rd l (simpleQ l n (strongQ l n 6)) keyE (e.name :: (⟨#[123]⟩ : ByteArray) :: (commas (givenTk e.place.path (e.args.map Ex.tk)) ++ [(⟨#[125]⟩ : ByteArray)])) r (keyE e):=fun s hs=>by
 have hlab:=hF.lab
 unfold labB at hlab
 simp only [Bool.and_eq_true] at hlab
 rw [if_neg (by omega),if_pos (.inl h19),if_neg (by omega)] at hlab
 have hnm:=kind_type hlab.1.1
 have hsec:=emS_eq hlab.1.2
 have hp:=hF.pl
 unfold placedB at hp
 rw [show shP e.op = false by rw [h19]; rfl,if_neg (by simp),if_pos h19] at hp
 simp only [Bool.and_eq_true,decide_eq_true_eq] at hp
 obtain ⟨hp1,hp2,hp3⟩:=hp
 have hpn:=(allUp_pair hp3).2
 rw [given_zip _ _ hp2] at hs hn
 have h0 : AtR l s (e.name :: (⟨#[123]⟩ : ByteArray) :: (commas ((e.place.path.zip e.args).map fun x=>x.1 :: (⟨#[61]⟩ : ByteArray) :: x.2.tk) ++ [(⟨#[125]⟩ : ByteArray)] ++ r)):=hs
 simp only [List.length_cons,List.length_append,List.length_nil] at hn
 obtain ⟨pos,hq⟩:=simple_eq hk (n:=n) (rd:=strongQ l n 6) h0
 have hal:=args_len hF
 have hzl : (e.place.path.zip e.args).length = e.args.length:=by rw [List.length_zip]; omega
 have hzm : ∀ x ∈ e.place.path.zip e.args,x.1 ∈ e.place.path ∧ x.2 ∈ e.args:=fun x hx=>List.of_mem_zip hx
 have hL:=list_rd (l:=l) (f:=handQ l (strongQ l n 6)) (key:=keyH) (e:=(⟨#[125]⟩ : ByteArray)) (by kernel_rfl) r ((e.place.path.zip e.args).map fun x=>(x.1 :: (⟨#[61]⟩ : ByteArray) :: x.2.tk,(x.1,keyE x.2))) (fun x hx r0 hr0=>by
  obtain ⟨a,ha,rfl⟩:=List.mem_map.1 hx
  have hlen:=commas_mem (List.mem_map_of_mem (f:=fun x : ByteArray × Ex=>x.1 :: (⟨#[61]⟩ : ByteArray) :: x.2.tk) ha)
  simp only [List.length_cons] at hlen
  have hla : lentOp a.2.op = false:=by rcases (hF.args a.2 (hzm a ha).2).1 with h | h; omega; exact h
  refine hand_rd hk (hpn _ (hzm a ha).1) (ih a.2 (hzm a ha).2 hla n (by omega) r0 ?_)
  obtain ⟨t,rfl | rfl⟩:=hr0
  ·exact okR_end 0 (by kernel_rfl)
  ·exact okR_end 0 (by kernel_rfl)) (fun x hx=>by
  obtain ⟨a,ha,rfl⟩:=List.mem_map.1 hx
  exact ⟨a.1,_,rfl,ne_kind (by rw [kind_name (hpn _ (hzm a ha).1)]; decide)⟩) (by rw [List.length_map,hzl]; exact hal) (n:=n) (by rw [List.length_map,hzl]; omega) s.nx.nx (by
  have:=h0.next.next
  simpa [List.map_map,Function.comp_def] using this)
 obtain ⟨ys,s',e1,e2,e3,e4⟩:=hL
 have k1 : ys.map (·.1) = e.place.path:=by
  have:=congrArg (List.map Prod.fst) e4
  rw [List.map_map,List.map_map,List.map_map] at this
  rw [show (ys.map (·.1)) = ys.map (Prod.fst ∘ keyH) from rfl,this,← zip_map1 e.place.path e.args hp2]
  simp [List.map_map,Function.comp_def,zip_map1 e.place.path e.args hp2]
 have k2 : (ys.map (·.2)).map keyE = e.args.map keyE:=by
  have:=congrArg (List.map Prod.snd) e4
  rw [List.map_map,List.map_map,List.map_map] at this
  rw [List.map_map,show ys.map (keyE ∘ fun x=>x.2) = ys.map (Prod.snd ∘ keyH) from rfl,this,← zip_map2 keyE e.place.path e.args hp2]
  rfl
 refine ⟨.mk 19 0 e.name emS ⟨emS,ys.map (·.1)⟩ (ys.map (·.2)) pos,s',?_,e2,e3,?_⟩
 ·rw [hq,hnm,if_neg (by decide),if_pos rfl]
  unfold upperQ
  rw [h0.takeP hk hnm,h0.next.is,sEq_self,if_pos rfl,h0.next.may,h0.takeT hk hnm,e1]; rfl
 ·rw [key_mk,k1,k2,key_of (p:=⟨emS,e.place.path⟩) h19 (lab_int hF.lab (by omega)) rfl hsec (by rw [← emS_eq hp1])]
theorem ex_enum {l : List Tok} (hk : Kinds l) {e : Ex} (hF : ExF e) (h20 : e.op = 20) (ih : ∀ a ∈ e.args,lentOp a.op = false → Eb l a) {n : Nat} {r : List ByteArray} (hr : okS r) (hn : ∀ a ∈ e.args,10 * a.tk.length + 6 ≤ n) : Rd l (simpleQ l n (strongQ l n 6)) keyE (e.name :: (⟨#[46]⟩ : ByteArray) :: e.second :: (match e.args.map (fun x=>(x.op,x.tk)) with | []=>[] | (_,a) :: _=>(⟨#[40]⟩ : ByteArray) :: (a ++ [(⟨#[41]⟩ : ByteArray)]))) r (keyE e):=fun s hs=>by
 have hlab:=hF.lab
 unfold labB at hlab
 simp only [Bool.and_eq_true] at hlab
 rw [if_neg (by omega),if_pos (.inr h20),if_pos h20] at hlab
 have hnm:=kind_type hlab.1.1
 have hsm:=kind_type hlab.1.2
 have hkey:=key_of h20 (lab_int hF.lab (by omega)) rfl rfl (no_place hF.pl (by rw [h20]; rfl) (by omega))
 have hhi:=hF.high
 rw [show shM e.op = 1 by rw [h20]; rfl] at hhi
 match ha : e.args with
 | [] =>
  rw [ha] at hs hkey
  have h0 : AtR l s (e.name :: (⟨#[46]⟩ : ByteArray) :: e.second :: r):=hs
  obtain ⟨pos,hq⟩:=simple_eq hk (n:=n) (rd:=strongQ l n 6) h0
  refine ⟨.mk 20 0 e.name e.second zeroPl [] pos,s.nx.nx.nx,?_,h0.next.next.next,rfl,by rw [hkey,key_mk]⟩
  rw [hq,hnm,if_neg (by decide),if_pos rfl]
  unfold upperQ
  rw [h0.takeP hk hnm,h0.next.is,show sEq (⟨#[46]⟩ : ByteArray) (⟨#[123]⟩ : ByteArray) = false by kernel_rfl,if_neg (by simp),h0.next.must,h0.takeT hk hnm]
  simp only
  have hi : isP l s.nx.nx.nx (⟨#[40]⟩ : ByteArray) 0 = false:=by
   have h3:=h0.next.next.next
   cases r with
   | nil=>exact h3.is_nil _ _
   | cons t ts=>rw [h3.is]; exact (hr t ts rfl).2
  rw [h0.next.next.takeP hk hsm,hi,if_neg (by simp),h0.next.next.takeT hk hsm]
 | [a] =>
  rw [ha] at hs hkey
  have h0 : AtR l s (e.name :: (⟨#[46]⟩ : ByteArray) :: e.second :: (⟨#[40]⟩ : ByteArray) :: (a.tk ++ (⟨#[41]⟩ : ByteArray) :: r)):=by
   have:=hs
   simpa [List.append_assoc] using this
  obtain ⟨pos,hq⟩:=simple_eq hk (n:=n) (rd:=strongQ l n 6) h0
  have ham : a ∈ e.args:=by rw [ha]; exact List.mem_cons_self ..
  have hla : lentOp a.op = false:=by rcases (hF.args a ham).1 with h | h; omega; exact h
  obtain ⟨y,s',e1,e2,e3,e4⟩:=ih a ham hla n (hn a ham) ((⟨#[41]⟩ : ByteArray) :: r) (okR_end 0 (by kernel_rfl)) s.nx.nx.nx.nx h0.next.next.next.next
  refine ⟨.mk 20 0 e.name e.second zeroPl [y] pos,s'.nx,?_,e2.next,e3,by rw [hkey,key_mk]; show _ = Ex.mk _ _ _ _ _ [keyE a] _; rw [← e4]; rfl⟩
  rw [hq,hnm,if_neg (by decide),if_pos rfl]
  unfold upperQ
  rw [h0.takeP hk hnm,h0.next.is,show sEq (⟨#[46]⟩ : ByteArray) (⟨#[123]⟩ : ByteArray) = false by kernel_rfl,if_neg (by simp),h0.next.must,h0.takeT hk hnm]
  simp only
  rw [h0.next.next.takeP hk hsm,h0.next.next.next.is,sEq_self,if_pos rfl,h0.next.next.next.may,e1,h0.next.next.takeT hk hsm]
  simp only [Option.map_some]
  rw [e2.must]
 | a :: b :: q=>rw [ha] at hhi; simp at hhi; omega
theorem word_kind (op : Int) : kindT (wordL op) = 1:=by
 have : ∀ v ∈ wordsL,kindT v = 1:=fun v hv=>by
  have:=List.all_eq_true.1 (show (wordsL.all fun v=>kindT v == 1) = true by kernel_rfl) v hv
  simpa using this
 obtain ⟨v,hv,hs⟩:=List.any_eq_true.1 (wordL_mem op)
 rw [sEq_iff.1 hs]; exact this v hv
theorem word_find {op : Int} (h : op = 21 ∨ op = 22 ∨ op = 23 ∨ op = 24 ∨ op = 25 ∨ op = 26 ∨ op = 27 ∨ op = 28 ∨ op = 29 ∨ op = 30 ∨ op = 31 ∨ op = 32 ∨ op = 33 ∨ op = 34 ∨ op = 35 ∨ op = 36) : findK (wordL op) callK = some op:=by
 rcases h with rfl | rfl | rfl | rfl | rfl | rfl | rfl | rfl | rfl | rfl | rfl | rfl | rfl | rfl | rfl | rfl <;> kernel_rfl
theorem ex_word {l : List Tok} (hk : Kinds l) {e : Ex} (hF : ExF e) (h21 : 21 ≤ e.op) (ih : ∀ a ∈ e.args,lentOp a.op = false → Eb l a) {n : Nat} {r : List ByteArray} (hn : ∀ a ∈ e.args,10 * a.tk.length + 6 ≤ n) (hnp : e.place.path.length < n) : Rd l (simpleQ l n (strongQ l n 6)) keyE (wordL e.op :: (⟨#[40]⟩ : ByteArray) :: ((if sEq e.place.name emS then [] else e.place.tk ++ (if (e.args.map fun x=>(x.op,x.tk)).length = 0 then [] else [(⟨#[44]⟩ : ByteArray)])) ++ (commas ((e.args.map fun x=>(x.op,x.tk)).map (·.2)) ++ [(⟨#[41]⟩ : ByteArray)]))) r (keyE e):=fun s hs=>by
 have hl:=lab_none hF.lab (by omega)
 have hi:=lab_int hF.lab (by omega)
 have hop:=hF.op
 have hall : e.op = 21 ∨ e.op = 22 ∨ e.op = 23 ∨ e.op = 24 ∨ e.op = 25 ∨ e.op = 26 ∨ e.op = 27 ∨ e.op = 28 ∨ e.op = 29 ∨ e.op = 30 ∨ e.op = 31 ∨ e.op = 32 ∨ e.op = 33 ∨ e.op = 34 ∨ e.op = 35 ∨ e.op = 36:=by omega
 have hf:=word_find hall
 have hm : (e.args.map fun x=>(x.op,x.tk)).map (·.2) = e.args.map Ex.tk:=by rw [List.map_map]; rfl
 rw [hm,List.length_map] at hs
 have hargs : ∀ a ∈ e.args,∀ r',okR 0 r' → Rd l (strongQ l n 6) keyE a.tk r' (keyE a):=fun a ha r' hr'=>by
  have hla : lentOp a.op = false:=by rcases (hF.args a ha).1 with h | h; omega; exact h
  exact ih a ha hla n (hn a ha) r' hr'
 by_cases hpo : shP e.op = true
 ·have hp:=a_place hF.pl hpo
  have hpn : nameB e.place.name = true:=by unfold Pl.whole at hp; simp only [Bool.and_eq_true] at hp; exact hp.1
  have hne : sEq e.place.name emS = false:=by
   cases hq : sEq e.place.name emS with
   | false=>rfl
   | true=>rw [emS_eq hq] at hpn; exact absurd hpn (by decide)
  rw [hne,if_neg (by simp)] at hs
  have hkey:=key_of (e:=e) rfl hi hl.1 hl.2 rfl
  by_cases hz : shM e.op = 0
  ·have ha:=no_args hF.high hz
   rw [ha] at hs hkey
   have h0 : AtR l s (wordL e.op :: (⟨#[40]⟩ : ByteArray) :: (e.place.tk ++ (⟨#[41]⟩ : ByteArray) :: r)):=by
    have:=hs
    simpa [commas,List.append_assoc] using this
   obtain ⟨pos,hq⟩:=simple_eq hk (n:=n) (rd:=strongQ l n 6) h0
   obtain ⟨y,s',e1,e2,e3,e4⟩:=place_rd hk hp (okR_end 0 (ts:=r) (t:=(⟨#[41]⟩ : ByteArray)) (by kernel_rfl)).dot hnp s.nx.nx h0.next.next
   have e5 : y = e.place:=e4
   have hc : e.op = 24 ∨ e.op = 28 ∨ e.op = 32 ∨ e.op = 36:=by
    rcases hall with h | h | h | h | h | h | h | h | h | h | h | h | h | h | h | h <;> rw [h] at hz hpo <;> first | omega | (exact absurd hz (by decide)) | (exact absurd hpo (by decide))
   refine ⟨.mk e.op 0 emS emS y [] pos,s'.nx,?_,e2.next,e3,by rw [hkey,key_mk,e5]⟩
   rw [hq,word_kind,if_neg (by decide),if_neg (by decide),if_neg (by decide),hf]
   simp only
   unfold calledQ
   rw [if_pos hc,h0.next.must,e1]
   simp only [Option.map_some]
   rw [e2.must]
  ·have hc : e.op = 25 ∨ e.op = 33 ∨ e.op = 34 ∨ e.op = 35:=by
    rcases hall with h | h | h | h | h | h | h | h | h | h | h | h | h | h | h | h <;> rw [h] at hz hpo <;> first | omega | (exact absurd (by decide) hz) | (exact absurd hpo (by decide))
   obtain ⟨a,ha⟩:=one_arg hF.low hF.high (by rcases hc with h | h | h | h <;> rw [h] <;> rfl) (by rcases hc with h | h | h | h <;> rw [h] <;> rfl)
   have ham : a ∈ e.args:=by rw [ha]; exact List.mem_cons_self ..
   have hA:=hargs a ham
   rw [ha] at hs hkey
   have h0 : AtR l s (wordL e.op :: (⟨#[40]⟩ : ByteArray) :: (e.place.tk ++ (⟨#[44]⟩ : ByteArray) :: (a.tk ++ (⟨#[41]⟩ : ByteArray) :: r))):=by
    have:=hs
    simpa [commas,List.append_assoc] using this
   obtain ⟨pos,hq⟩:=simple_eq hk (n:=n) (rd:=strongQ l n 6) h0
   obtain ⟨y,s',e1,e2,e3,e4⟩:=place_rd hk hp (okR_end 0 (ts:=a.tk ++ (⟨#[41]⟩ : ByteArray) :: r) (t:=(⟨#[44]⟩ : ByteArray)) (by kernel_rfl)).dot hnp s.nx.nx h0.next.next
   have e5 : y = e.place:=e4
   obtain ⟨z,s2,k1,k2,k3,k4⟩:=hA ((⟨#[41]⟩ : ByteArray) :: r) (okR_end 0 (by kernel_rfl)) s'.nx e2.next
   refine ⟨.mk e.op 0 emS emS y [z] pos,s2.nx,?_,k2.next,k3.trans e3,by rw [hkey,key_mk,e5]; show Ex.mk _ _ _ _ _ [keyE z] _ = Ex.mk _ _ _ _ _ [keyE a] _; rw [k4]⟩
   rw [hq,word_kind,if_neg (by decide),if_neg (by decide),if_neg (by decide),hf]
   simp only
   unfold calledQ
   rw [if_neg (by omega),if_pos hc,h0.next.must,e1]
   simp only
   rw [e2.must,k1]
   simp only [Option.map_some]
   rw [k2.must]
 ·have hpo : shP e.op = false:=by simpa using hpo
  have hpz:=no_place hF.pl hpo (by omega)
  have hc : ¬ (e.op = 24 ∨ e.op = 28 ∨ e.op = 32 ∨ e.op = 36) ∧ ¬ (e.op = 25 ∨ e.op = 33 ∨ e.op = 34 ∨ e.op = 35):=by
   rcases hall with h | h | h | h | h | h | h | h | h | h | h | h | h | h | h | h <;> rw [h] at hpo <;> first | omega | (exact absurd hpo (by decide))
  have hkey:=key_of (e:=e) rfl hi hl.1 hl.2 hpz
  obtain ⟨a,ha⟩:=one_arg hF.low hF.high (by rcases hall with h | h | h | h | h | h | h | h | h | h | h | h | h | h | h | h <;> first | omega | (rw [h]; rfl)) (by rcases hall with h | h | h | h | h | h | h | h | h | h | h | h | h | h | h | h <;> first | omega | (rw [h]; rfl))
  have ham : a ∈ e.args:=by rw [ha]; exact List.mem_cons_self ..
  have hA:=hargs a ham
  rw [ha] at hkey
  rw [ha,hpz,show sEq zeroPl.name emS = true from sEq_self _,if_pos rfl] at hs
  have h0 : AtR l s (wordL e.op :: (⟨#[40]⟩ : ByteArray) :: (a.tk ++ (⟨#[41]⟩ : ByteArray) :: r)):=by
   have:=hs
   simpa [commas,List.append_assoc] using this
  obtain ⟨pos,hq⟩:=simple_eq hk (n:=n) (rd:=strongQ l n 6) h0
  obtain ⟨z,s2,k1,k2,k3,k4⟩:=hA ((⟨#[41]⟩ : ByteArray) :: r) (okR_end 0 (by kernel_rfl)) s.nx.nx h0.next.next
  refine ⟨ex0 e.op 0 emS [z] pos,s2.nx,?_,k2.next,k3,by rw [hkey,key_mk]; show Ex.mk _ _ _ _ _ [keyE z] _ = Ex.mk _ _ _ _ _ [keyE a] _; rw [k4]⟩
  rw [hq,word_kind,if_neg (by decide),if_neg (by decide),if_neg (by decide),hf]
  simp only
  unfold calledQ
  rw [if_neg hc.1,if_neg hc.2,h0.next.must,k1]
  simp only [Option.map_some]
  rw [k2.must]
end Go.Proofs.YthohopjnpgbljaaGreatDoor
namespace Go.Proofs.YthohopjnpgbljaaGreatDoor
open Go.RowKit
def Pb (l : List Tok) (e : Ex) (k : Nat) : Prop:=∀ n,10 * (parTk e.op k e.tk).length + 6 ≤ n → ∀ r,okR k r → Rd l (strongQ l n (6 - k)) keyE (parTk e.op k e.tk) r (keyE e)
def binB (op : Int) : Prop:=op = 9 ∨ op = 10 ∨ op = 11 ∨ op = 12 ∨ op = 13 ∨ op = 14 ∨ op = 15 ∨ op = 16 ∨ op = 17
theorem bin_str {op : Int} (h : binB op) : ∃ s : Nat,signI op = s ∧ s ≤ 5 ∧ s ≠ 2 ∧ findK (signB op) (signsK s) = some op ∧ (∀ ts,okR (s + 1) (signB op :: ts)) ∧ (s = 3 ↔ op = 14 ∨ op = 15):=by
 have key : ∀ (v : ByteArray) (s : Nat),(List.range 6).all (fun k=>decide (k ≤ s) || (findK v (signsK k)).isNone) = true → sEq v (⟨#[46]⟩ : ByteArray) = false → sEq v (⟨#[40]⟩ : ByteArray) = false → ∀ ts,okR (s + 1) (v :: ts):=fun v s h h1 h2 ts=>by
  refine okR_cons (fun k' hk'=>?_) h1 h2
  rcases Nat.lt_or_ge k' 6 with h6 | h6
  ·have:=List.all_eq_true.1 h k' (List.mem_range.2 h6)
   simp only [Bool.or_eq_true,decide_eq_true_eq] at this
   rcases this with h3 | h3
   ·omega
   ·simpa using h3
  ·exact signs6 _ h6
 rcases h with rfl | rfl | rfl | rfl | rfl | rfl | rfl | rfl | rfl
 ·exact ⟨4,rfl,by decide,by decide,by kernel_rfl,key _ 4 (by kernel_rfl) (by kernel_rfl) (by kernel_rfl),by decide⟩
 ·exact ⟨4,rfl,by decide,by decide,by kernel_rfl,key _ 4 (by kernel_rfl) (by kernel_rfl) (by kernel_rfl),by decide⟩
 ·exact ⟨5,rfl,by decide,by decide,by kernel_rfl,key _ 5 (by kernel_rfl) (by kernel_rfl) (by kernel_rfl),by decide⟩
 ·exact ⟨5,rfl,by decide,by decide,by kernel_rfl,key _ 5 (by kernel_rfl) (by kernel_rfl) (by kernel_rfl),by decide⟩
 ·exact ⟨5,rfl,by decide,by decide,by kernel_rfl,key _ 5 (by kernel_rfl) (by kernel_rfl) (by kernel_rfl),by decide⟩
 ·exact ⟨3,rfl,by decide,by decide,by kernel_rfl,key _ 3 (by kernel_rfl) (by kernel_rfl) (by kernel_rfl),by decide⟩
 ·exact ⟨3,rfl,by decide,by decide,by kernel_rfl,key _ 3 (by kernel_rfl) (by kernel_rfl) (by kernel_rfl),by decide⟩
 ·exact ⟨1,rfl,by decide,by decide,by kernel_rfl,key _ 1 (by kernel_rfl) (by kernel_rfl) (by kernel_rfl),by decide⟩
 ·exact ⟨0,rfl,by decide,by decide,by kernel_rfl,key _ 0 (by kernel_rfl) (by kernel_rfl) (by kernel_rfl),by decide⟩
theorem bin_args {e : Ex} (hF : ExF e) (h : binB e.op) : ∃ a b,e.args = [a,b]:=by
 have h1:=hF.low
 have h2:=hF.high
 have e1 : shL e.op = 2 ∧ shM e.op = 2:=by
  rcases h with h | h | h | h | h | h | h | h | h <;> rw [h] <;> exact ⟨rfl,rfl⟩
 rw [e1.1] at h1
 rw [e1.2] at h2
 match h : e.args with
 | []=>rw [h] at h1; simp at h1
 | [a]=>rw [h] at h1; simp at h1
 | [a,b]=>exact ⟨a,b,rfl⟩
 | a :: b :: c :: r=>rw [h] at h2; simp at h2; omega
theorem bin_key {e : Ex} (hF : ExF e) (h : binB e.op) {a b : Ex} (ha : e.args = [a,b]) : keyE e = .mk e.op 0 emS emS zeroPl [keyE a,keyE b] 0:=by
 have h18 : e.op ≠ 18 ∧ e.op ≠ 19 ∧ e.op ≠ 20:=by unfold binB at h; omega
 have hl:=lab_none hF.lab h18
 have hp : shP e.op = false:=by rcases h with h | h | h | h | h | h | h | h | h <;> rw [h] <;> rfl
 rw [key_of rfl (lab_int hF.lab (by unfold binB at h; omega)) hl.1 hl.2 (no_place hF.pl hp h18.2.1),ha]
 rfl
theorem bin_lent {e : Ex} (hF : ExF e) (h : binB e.op) : ∀ a ∈ e.args,lentOp a.op = false:=fun a ha=>by
 rcases (hF.args a ha).1 with h1 | h1
 ·unfold binB at h; omega
 ·exact h1
theorem bin_tk {e : Ex} (h : binB e.op) {a b : Ex} (ha : e.args = [a,b]) : e.tk = parTk a.op (if signI e.op = 3 then 4 else signI e.op) a.tk ++ signB e.op :: parTk b.op (signI e.op + 1) b.tk:=by
 obtain ⟨s,hs,h5,_⟩:=bin_str h
 rw [exTk_eq,ha]
 unfold exTk1
 rw [if_pos (by omega)]
 rfl
theorem sign_step {l : List Tok} {rd : RS → Option (Ex × RS)} {op : Int} {s : Nat} (hf : findK (signB op) (signsK s) = some op) {tk r : List ByteArray} {x : Ex} (h : Rd l rd keyE tk r x) {m : Nat} {y : Ex} {s0 : RS} (hs : AtR l s0 (signB op :: (tk ++ r))) : ∃ z s1 pos,signsQ l rd s (m + 1) y s0 = (if s = 3 then some (ex0 op 0 emS [y,z] pos,s1) else signsQ l rd s m (ex0 op 0 emS [y,z] pos) s1) ∧ AtR l s1 r ∧ s1.full = s0.full ∧ keyE z = x:=by
 obtain ⟨t,ht,htt,_⟩:=hs.get
 obtain ⟨z,s1,e1,e2,e3,e4⟩:=h s0.nx hs.next
 refine ⟨z,s1,t.pos,?_,e2,e3,e4⟩
 rw [signsQ,if_neg (by rw [hs.ok]; simp),ht]
 simp only
 rw [htt,hf]
 simp only
 rw [show (⟨s0.at_ + 1,s0.bad,s0.full⟩ : RS) = s0.nx from rfl,e1]
def Sp (l : List Tok) (e : Ex) : Prop:=binB e.op → ∀ s : Nat,signI e.op = s → s ≠ 3 → ∀ n,10 * e.tk.length ≤ n → ∀ r,okR (s + 1) r → ∀ s0,AtR l s0 (e.tk ++ r) → ∃ y s1 m,strongQ l (n + 1) (6 - s) s0 = signsQ l (strongQ l n (5 - s)) s m y s1 ∧ n ≤ m + e.tk.length ∧ AtR l s1 r ∧ s1.full = s0.full ∧ keyE y = keyE e
theorem par_same {op : Int} {s : Nat} (h : signI op ≠ s) (t : List ByteArray) : parTk op s t = parTk op ((s + 1 : Nat) : Int) t:=by
 unfold parTk
 by_cases h1 : signI op < s
 ·rw [if_pos h1,if_pos (by omega)]
 ·rw [if_neg h1,if_neg (by omega)]
theorem par_no {op : Int} {k : Nat} (h : (k : Int) ≤ signI op) (t : List ByteArray) : parTk op k t = t:=by unfold parTk; rw [if_neg (by omega)]
theorem spine {l : List Tok} {e : Ex} (hF : ExF e) (hP : ∀ a ∈ e.args,∀ k ≤ 6,Pb l a k) (hS : ∀ a ∈ e.args,Sp l a) : Sp l e:=fun hb s hs h3 n hn r hr s0 h0=>by
 obtain ⟨a,b,hab⟩:=bin_args hF hb
 obtain ⟨s',q1,q2,q3,q4,q5,q6⟩:=bin_str hb
 obtain rfl : s' = s:=by omega
 have htk:=bin_tk hb hab
 rw [hs,if_neg (by omega)] at htk
 have hkey:=bin_key hF hb hab
 have ham : a ∈ e.args:=by rw [hab]; simp
 have hbm : b ∈ e.args:=by rw [hab]; simp
 have hlen:=congrArg List.length htk
 rw [List.length_append,List.length_cons] at hlen
 have hB : Rd l (strongQ l n (5 - s')) keyE (parTk b.op ((s' : Int) + 1) b.tk) r (keyE b):=by
  have:=hP b hbm (s' + 1) (by omega) n (by rw [show ((s' + 1 : Nat) : Int) = (s' : Int) + 1 by omega]; omega) r hr
  rw [show ((s' + 1 : Nat) : Int) = (s' : Int) + 1 by omega,show 6 - (s' + 1) = 5 - s' by omega] at this
  exact this
 have h1 : AtR l s0 (parTk a.op s' a.tk ++ (signB e.op :: (parTk b.op ((s' : Int) + 1) b.tk ++ r))):=by
  rw [htk] at h0
  simpa [List.append_assoc] using h0
 have hfin : ∀ (m : Nat) (y : Ex) (s1 : RS),strongQ l (n + 1) (6 - s') s0 = signsQ l (strongQ l n (5 - s')) s' m y s1 → n ≤ m + (parTk a.op s' a.tk).length → AtR l s1 (signB e.op :: (parTk b.op ((s' : Int) + 1) b.tk ++ r)) → s1.full = s0.full → keyE y = keyE a → ∃ y s1 m,strongQ l (n + 1) (6 - s') s0 = signsQ l (strongQ l n (5 - s')) s' m y s1 ∧ n ≤ m + e.tk.length ∧ AtR l s1 r ∧ s1.full = s0.full ∧ keyE y = keyE e:=fun m y s1 k1 k2 k3 k4 k5=>by
  obtain ⟨m',rfl⟩ : ∃ m',m = m' + 1:=⟨m - 1,by omega⟩
  obtain ⟨z,s2,pos,e1,e2,e3,e4⟩:=sign_step q4 hB (m:=m') (y:=y) k3
  rw [if_neg h3] at e1
  refine ⟨_,s2,m',k1.trans e1,by omega,e2,e3.trans k4,?_⟩
  rw [key_mk,hkey]
  show Ex.mk _ _ _ _ _ [keyE y,keyE z] _ = _
  rw [k5,e4]
 by_cases hsa : signI a.op = s'
 ·have hba : binB a.op:=by
   have : signI a.op < 7:=by omega
   have h7:=sign_not7.1 this
   unfold binB
   have n7 : a.op ≠ 7:=fun h=>by rw [h] at hsa; have : signI 7 = 6:=rfl; omega
   have n8 : a.op ≠ 8:=fun h=>by rw [h] at hsa; have : signI 8 = 2:=rfl; omega
   omega
  have hpa : parTk a.op s' a.tk = a.tk:=par_no (by omega) _
  rw [hpa] at h1 hfin hlen
  obtain ⟨y,s1,m,e1,e2,e3,e4,e5⟩:=hS a ham hba s' hsa h3 n (by omega) _ (q5 _) s0 h1
  exact hfin m y s1 e1 e2 e3 e4 e5
 ·have hA:=hP a ham (s' + 1) (by omega) n (by rw [← par_same hsa]; omega) _ (q5 (parTk b.op ((s' : Int) + 1) b.tk ++ r))
  rw [← par_same hsa,show 6 - (s' + 1) = 5 - s' by omega] at hA
  obtain ⟨y,s1,e1,e2,e3,e4⟩:=hA s0 h1
  refine hfin n y s1 ?_ (by omega) e2 e3 e4
  rw [show 6 - s' = (5 - s') + 1 by omega,strongQ,if_neg (by rw [h0.ok]; simp),if_neg (by omega),e1]
  simp only
  rw [show 5 - (5 - s') = s' by omega]
end Go.Proofs.YthohopjnpgbljaaGreatDoor
namespace Go.Proofs.YthohopjnpgbljaaGreatDoor
open Go.RowKit
theorem simple_rd {l : List Tok} (hk : Kinds l) {e : Ex} (hF : ExF e) (hrg : ExRg e) (hs : ¬ signI e.op < 7) (hl : lentOp e.op = false) (ih : ∀ a ∈ e.args,lentOp a.op = false → Eb l a) {n : Nat} (hn : 10 * e.tk.length ≤ n + 1) {r : List ByteArray} (hr : okS r) : Rd l (simpleQ l n (strongQ l n 6)) keyE e.tk r (keyE e):=by
 have hop:=hF.op
 have hno : ¬ (7 ≤ e.op ∧ e.op ≤ 17):=fun h=>hs (sign_not7.2 h)
 have hle : e.op ≠ 5 ∧ e.op ≠ 6:=by unfold lentOp at hl; simpa using hl
 have htk:=exTk_eq e
 unfold exTk1 at htk
 rw [if_neg hs] at htk
 by_cases h1 : e.op = 1
 ·rw [if_pos h1] at htk; rw [htk]; exact ex_int hk hF hrg h1
 rw [if_neg h1] at htk
 by_cases h2 : e.op = 2
 ·rw [if_pos h2] at htk; rw [htk]; exact ex_bool hk hF h2
 rw [if_neg h2] at htk
 by_cases h3 : e.op = 3
 ·rw [if_pos h3] at htk; rw [htk]; exact ex_unit hk hF h3
 rw [if_neg h3] at htk
 by_cases h4 : e.op = 4
 ·rw [if_pos h4] at htk
  rw [htk] at hn ⊢
  have:=place_len e.place
  exact ex_use hk hF h4 hr (by omega)
 rw [if_neg h4,if_neg hle.1,if_neg hle.2] at htk
 by_cases h18 : e.op = 18
 ·rw [if_pos h18,List.map_map] at htk
  rw [htk] at hn ⊢
  exact ex_call hk hF h18 ih hn
 rw [if_neg h18] at htk
 by_cases h19 : e.op = 19
 ·rw [if_pos h19,List.map_map] at htk
  rw [htk] at hn ⊢
  exact ex_struct hk hF h19 ih hn
 rw [if_neg h19] at htk
 by_cases h20 : e.op = 20
 ·rw [if_pos h20] at htk
  rw [htk] at hn ⊢
  refine ex_enum hk hF h20 ih hr fun a ha=>?_
  have hhi:=hF.high
  rw [show shM e.op = 1 by rw [h20]; rfl] at hhi
  match h : e.args with
  | []=>rw [h] at ha; cases ha
  | [b] =>
   rw [h] at ha hn
   obtain rfl : a = b:=by simpa using ha
   simp at hn
   omega
  | b :: c :: q=>rw [h] at hhi; simp at hhi; omega
 rw [if_neg h20] at htk
 rw [htk] at hn ⊢
 have hm : (e.args.map fun x=>(x.op,x.tk)).map (·.2) = e.args.map Ex.tk:=by rw [List.map_map]; rfl
 refine ex_word hk hF (by omega) ih (fun a ha=>?_) ?_
 ·have h5:=commas_mem (List.mem_map_of_mem (f:=Ex.tk) ha)
  rw [← hm] at h5
  simp only [List.length_cons,List.length_append,List.length_nil] at hn
  omega
 ·by_cases hpo : shP e.op = true
  ·have hp:=a_place hF.pl hpo
   have hpn : nameB e.place.name = true:=by unfold Pl.whole at hp; simp only [Bool.and_eq_true] at hp; exact hp.1
   have hne : sEq e.place.name emS = false:=by
    cases hq : sEq e.place.name emS with
    | false=>rfl
    | true=>rw [emS_eq hq] at hpn; exact absurd hpn (by decide)
   have:=place_len e.place
   rw [hne,if_neg (by simp)] at hn
   simp only [List.length_cons,List.length_append] at hn
   omega
  ·have hpo : shP e.op = false:=by simpa using hpo
   rw [no_place hF.pl hpo h19]
   simp only [List.length_cons,List.length_append] at hn
   show 0 < n
   omega
theorem ex_main {l : List Tok} (hk : Kinds l) : ∀ e : Ex,(∃ d,e.whole d = true) → ExRg e → lentOp e.op = false → (∀ k : Nat,k ≤ 6 → Pb l e k) ∧ Sp l e:=by
 intro e
 induction e using Ex.ind with
 | h e ih0 =>
 rintro ⟨d,hd⟩ hrg hl
 have hF:=ex_facts hd
 have hrgs:=((exRg_iff e).1 hrg).2
 have ih:=fun a (ha : a ∈ e.args) (hla : lentOp a.op = false)=>ih0 a ha (hF.args a ha).2 (hrgs a ha) hla
 have ihE : ∀ a ∈ e.args,lentOp a.op = false → Eb l a:=fun a ha hla n hn r hr=>by
  have:=(ih a ha hla).1 0 (by omega) n
  have hp : parTk a.op ((0 : Nat) : Int) a.tk = a.tk:=par_no (by unfold signI; repeat' split; all_goals omega) _
  rw [hp] at this
  exact this hn r hr
 obtain ⟨t,ts,ht,hh⟩:=ex_head e ⟨d,hd⟩
 have hS : Sp l e:=fun hb=>spine hF (fun a ha=>(ih a ha (bin_lent hF hb a ha)).1) (fun a ha=>(ih a ha (bin_lent hF hb a ha)).2) hb
 have hop:=hF.op
 have hpos : 1 ≤ e.tk.length:=by rw [ht]; simp
 have own : ∀ k : Nat,k ≤ 6 → (k : Int) ≤ signI e.op → ∀ n,10 * e.tk.length + 6 ≤ n → ∀ r,okR k r → Rd l (strongQ l n (6 - k)) keyE e.tk r (keyE e):=fun k hk6 hks n hn r hr=>by
  by_cases hs : signI e.op < 7
  ·have h717:=sign_not7.1 hs
   by_cases h7 : e.op = 7
   ·obtain ⟨a,ha⟩:=one_arg hF.low hF.high (by rw [h7]; rfl) (by rw [h7]; rfl)
    have ham : a ∈ e.args:=by rw [ha]; simp
    have hla : lentOp a.op = false:=by rcases (hF.args a ham).1 with h | h; omega; exact h
    have htk : e.tk = (⟨#[45]⟩ : ByteArray) :: parTk a.op 6 a.tk:=by
     rw [exTk_eq,ha]
     unfold exTk1
     rw [if_pos hs,h7]; rfl
    rw [htk] at hn ⊢
    simp only [List.length_cons] at hn
    obtain ⟨n1,rfl⟩ : ∃ n1,n = n1 + 1 + (6 - k):=⟨n - 7 + k,by omega⟩
    have hA:=(ih a ham hla).1 6 (by omega) n1 (by show 10 * (parTk a.op 6 a.tk).length + 6 ≤ n1; omega) r (hr.up hk6)
    have h0 : Rd l (strongQ l (n1 + 1) 0) keyE ((⟨#[45]⟩ : ByteArray) :: parTk a.op 6 a.tk) r (keyE e):=fun s hs0=>by
     have h1 : AtR l s ((⟨#[45]⟩ : ByteArray) :: (parTk a.op 6 a.tk ++ r)):=hs0
     obtain ⟨y,s',e1,e2,e3,e4⟩:=hA s.nx h1.next
     refine ⟨ex0 7 0 emS [y] (placeP l s),s',?_,e2,e3,?_⟩
     ·rw [strongQ,if_neg (by rw [h1.ok]; simp),h1.is,sEq_self,if_pos rfl,h1.may,show strongQ l n1 0 s.nx = _ from e1]; rfl
     ·have hlb:=lab_none hF.lab (by omega)
      rw [key_of h7 (lab_int hF.lab (by omega)) hlb.1 hlb.2 (no_place hF.pl (by rw [h7]; rfl) (by omega)),ha,key_mk]
      show Ex.mk _ _ _ _ _ [keyE y] _ = Ex.mk _ _ _ _ _ [keyE a] _
      rw [e4]
    have:=strong_upTo (j:=0) (6 - k) (n1 + 1) (by omega) (fun _ _ _ _=>by kernel_rfl) (by rw [show 6 - (0 + (6 - k)) = k by omega]; exact hr) (by omega) h0
    rwa [Nat.zero_add] at this
   by_cases h8 : e.op = 8
   ·have hk2 : k ≤ 2:=by
     have : signI e.op = 2:=by rw [h8]; rfl
     omega
    obtain ⟨a,ha⟩:=one_arg hF.low hF.high (by rw [h8]; rfl) (by rw [h8]; rfl)
    have ham : a ∈ e.args:=by rw [ha]; simp
    have hla : lentOp a.op = false:=by rcases (hF.args a ham).1 with h | h; omega; exact h
    have htk : e.tk = (⟨#[110,111,116]⟩ : ByteArray) :: parTk a.op 2 a.tk:=by
     rw [exTk_eq,ha]
     unfold exTk1
     rw [if_pos hs,h8]; rfl
    rw [htk] at hn ⊢
    simp only [List.length_cons] at hn
    obtain ⟨n1,rfl⟩ : ∃ n1,n = n1 + 1 + (2 - k):=⟨n - 3 + k,by omega⟩
    have hA:=(ih a ham hla).1 2 (by omega) n1 (by show 10 * (parTk a.op 2 a.tk).length + 6 ≤ n1; omega) r (hr.up hk2)
    have h0 : Rd l (strongQ l (n1 + 1) 4) keyE ((⟨#[110,111,116]⟩ : ByteArray) :: parTk a.op 2 a.tk) r (keyE e):=fun s hs0=>by
     have h1 : AtR l s ((⟨#[110,111,116]⟩ : ByteArray) :: (parTk a.op 2 a.tk ++ r)):=hs0
     obtain ⟨y,s',e1,e2,e3,e4⟩:=hA s.nx h1.next
     refine ⟨ex0 8 0 emS [y] (placeP l s),s',?_,e2,e3,?_⟩
     ·rw [strongQ,if_neg (by rw [h1.ok]; simp),h1.is,sEq_self,if_pos ⟨rfl,rfl⟩,h1.may,show strongQ l n1 4 s.nx = _ from e1]; rfl
     ·have hlb:=lab_none hF.lab (by omega)
      rw [key_of h8 (lab_int hF.lab (by omega)) hlb.1 hlb.2 (no_place hF.pl (by rw [h8]; rfl) (by omega)),ha,key_mk]
      show Ex.mk _ _ _ _ _ [keyE y] _ = Ex.mk _ _ _ _ _ [keyE a] _
      rw [e4]
    have:=strong_upTo (j:=4) (2 - k) (n1 + 1) (by omega) (fun j' a b c=>by omega) (by rw [show 6 - (4 + (2 - k)) = k by omega]; exact hr) (by omega) h0
    rwa [show 4 + (2 - k) = 6 - k by omega] at this
   have hb : binB e.op:=by unfold binB; omega
   obtain ⟨s,q1,q2,q3,q4,q5,q6⟩:=bin_str hb
   obtain ⟨n1,rfl⟩ : ∃ n1,n = n1 + 1 + (s - k):=⟨n - 1 - (s - k),by omega⟩
   have hks' : k ≤ s:=by omega
   have h0 : Rd l (strongQ l (n1 + 1) (6 - s)) keyE e.tk r (keyE e):=fun s0 hs0=>by
    by_cases h3 : s = 3
    ·subst h3
     obtain ⟨a,b,hab⟩:=bin_args hF hb
     have ham : a ∈ e.args:=by rw [hab]; simp
     have hbm : b ∈ e.args:=by rw [hab]; simp
     have htk:=bin_tk hb hab
     rw [q1,if_pos (by decide),show ((3 : Nat) : Int) + 1 = 4 from rfl] at htk
     have hlen:=congrArg List.length htk
     rw [List.length_append,List.length_cons] at hlen
     have hA:=(ih a ham (bin_lent hF hb a ham)).1 4 (by omega) n1 (by show 10 * (parTk a.op 4 a.tk).length + 6 ≤ n1; omega)
     have hB:=(ih b hbm (bin_lent hF hb b hbm)).1 4 (by omega) n1 (by show 10 * (parTk b.op 4 b.tk).length + 6 ≤ n1; omega) r (hr.up (by omega))
     rw [htk] at hs0
     have h1 : AtR l s0 (parTk a.op 4 a.tk ++ (signB e.op :: (parTk b.op 4 b.tk ++ r))):=by
      have:=hs0
      simpa [List.append_assoc] using this
     obtain ⟨y,s1,e1,e2,e3,e4⟩:=hA _ (q5 _) s0 h1
     obtain ⟨m',hm'⟩ : ∃ m',n1 = m' + 1:=⟨n1 - 1,by omega⟩
     obtain ⟨z,s2,pos,k1,k2,k3,k4⟩:=sign_step (rd:=strongQ l n1 2) q4 hB (m:=m') (y:=y) e2
     rw [if_pos rfl,← hm'] at k1
     refine ⟨ex0 e.op 0 emS [y,z] pos,s2,?_,k2,k3.trans e3,?_⟩
     ·show strongQ l (n1 + 1) (2 + 1) s0 = _
      rw [strongQ,if_neg (by rw [hs0.ok]; simp),if_neg (by omega),show strongQ l n1 2 s0 = _ from e1]
      exact k1
     ·rw [key_mk,bin_key hF hb hab]
      show Ex.mk _ _ _ _ _ [keyE y,keyE z] _ = _
      rw [e4,k4]
    ·obtain ⟨y,s1,m,e1,e2,e3,e4,e5⟩:=hS hb s q1 h3 n1 (by omega) r (hr.up (by omega)) s0 hs0
     refine ⟨y,s1,?_,e3,e4,e5⟩
     rw [e1]
     exact signsQ_stop e3 (fun t' ts' hq=>(hr t' ts' hq).1 s hks') (by omega)
   rw [ht] at h0 ⊢
   have:=strong_upTo (j:=6 - s) (s - k) (n1 + 1) (by omega) (fun j' a b c=>hh.no (by omega)) (by rw [show 6 - (6 - s + (s - k)) = k by omega]; exact hr) (by omega) h0
   rwa [show 6 - s + (s - k) = 6 - k by omega] at this
  ·have hs7 : signI e.op = 7:=by
    have : signI e.op ≤ 7:=by unfold signI; repeat' split; all_goals omega
    omega
   obtain ⟨n0,rfl⟩ : ∃ n0,n = n0 + 1 + (6 - k):=⟨n - 7 + k,by omega⟩
   have h0:=simple_rd hk hF hrg hs hl ihE (n:=n0) (by omega) hr.s
   rw [ht] at h0 ⊢
   have h1:=strong_0 (hh.mi hs7) h0
   have:=strong_upTo (j:=0) (6 - k) (n0 + 1) (by omega) (fun _ _ _ _=>hh.no (by omega)) (by rw [show 6 - (0 + (6 - k)) = k by omega]; exact hr) (by omega) h1
   rwa [Nat.zero_add] at this
 refine ⟨fun k hk6 n hn r hr=>?_,hS⟩
 by_cases hp : signI e.op < k
 ·unfold parTk at hn ⊢
  rw [if_pos hp] at hn ⊢
  simp only [List.length_cons,List.length_append,List.length_nil] at hn
  obtain ⟨n0,rfl⟩ : ∃ n0,n = n0 + 1 + (6 - k):=⟨n - 7 + k,by omega⟩
  have hsg : (0 : Int) ≤ signI e.op:=by unfold signI; repeat' split; all_goals omega
  have h0:=own 0 (by omega) (by omega) n0 (by omega) ((⟨#[41]⟩ : ByteArray) :: r) (okR_end 0 (by kernel_rfl))
  rw [ht] at h0 ⊢
  have h1:=paren_rd hk (n:=n0) (hh.ne (by rw [show kindT (⟨#[41]⟩ : ByteArray) = 5 by kernel_rfl]; omega) (by kernel_rfl)) h0
  have h2:=strong_0 (by kernel_rfl) h1
  have:=strong_upTo (j:=0) (6 - k) (n0 + 1) (by omega) (fun _ _ _ _=>by kernel_rfl) (by rw [show 6 - (0 + (6 - k)) = k by omega]; exact hr) (by omega) h2
  rwa [Nat.zero_add] at this
 ·rw [par_no (by omega)] at hn ⊢
  exact own k hk6 (by omega) n hn r hr
theorem ex_back {l : List Tok} (hk : Kinds l) {e : Ex} (hw : ∃ d,e.whole d = true) (hrg : ExRg e) (hl : lentOp e.op = false) : Eb l e:=fun n hn r hr=>by
 have:=(ex_main hk e hw hrg hl).1 0 (by omega) n
 have hp : parTk e.op ((0 : Nat) : Int) e.tk = e.tk:=par_no (by unfold signI; repeat' split; all_goals omega) _
 rw [hp] at this
 exact this hn r hr
end Go.Proofs.YthohopjnpgbljaaGreatDoor
