/- A part of the proof. The statement is proved in the claim's last text. -/
import Derived.Test.YtfiohepfohhibaaDoorPNPq
import Derived.Test.YtfiohepfohhibaaDoorPMWp
import Derived.Test.YtfiohepfohhibaaDoorPNPp
set_option linter.unusedVariables false
set_option linter.unusedSimpArgs false
set_option maxRecDepth 100000
set_option maxHeartbeats 32000000
namespace Go.Proofs.YtfiohepfohhibaaDoor
open Go.RowKit
attribute [local simp] List.replicate List.range List.range.loop resA resOne retA AV.cuts AV.cut AObj.cut trim wkR wkT wkL wkN wkNR wkNL wkM wkMR wkML
def RdF (F : Nat) (args : Nat → Nat → List AV) (l : List Tok) (s s' : RS) (r : AV) : Prop:=∀ (S : ASt) (d i : Nat),RAt S d i l s → ADet Tryd.prog F (.ptr d i 0 :: args d i) S r (set2 S d i (rdO l s'))
theorem RdF.at {F : Nat} {args : Nat → Nat → List AV} {l : List Tok} {s s1 s2 : RS} {r : AV} (hw : RdF F args l s1 s2 r) {S : ASt} {d i : Nat} (h : RAt S d i l s) (h1 : s1.at_ ≤ l.length) (L : List AObj) :
  ADet Tryd.prog F (.ptr (d + 1) i 0 :: args (d + 1) i) (L :: set2 S d i (rdO l s1)) r (L :: set2 S d i (rdO l s2)):=by
 have:=hw _ _ i ((h.upd s1 h1).push L)
 rw [set2_suc,set2_set2] at this
 exact this
theorem RdF.intro {F : Nat} {args : Nat → Nat → List AV} {l : List Tok} {s s' : RS} {r : AV} (hw : ∀ (S : ASt) (d i : Nat),RAt S d i l s → ADet Tryd.prog F (.ptr d i 0 :: args d i) (set2 S d i (rdO l s)) r (set2 S d i (rdO l s'))) : RdF F args l s s' r:=fun S d i h=>by
 have:=hw S d i h
 rw [h.same] at this
 exact this
theorem RdF.less {F : Nat} {args : Nat → Nat → List AV} {l : List Tok} {s s' : RS} {r r' : AV} (hle : LeA r r') (h : RdF F args l s s' r) : RdF F args l s s' r':=fun S d i hR=>ADet.less hle (h S d i hR)
abbrev fiA (x : Fi) : AV:=.agg [Sg x.name,U x.type.kind,Sg x.type.name,.p (.sl 3 (x.type.args.map Ty.enc))]
theorem fieldP_le {n : Nat} {l : List Tok} {s : RS} {x : Fi} {s' : RS} (hs : s.at_ ≤ l.length) (h : fieldP l n s = some (x,s')) : s'.at_ ≤ l.length:=by
 unfold fieldP at h
 obtain ⟨⟨t,s1⟩,hk,he⟩:=Option.map_eq_some_iff.1 h
 cases he
 exact kindP_le n l _ t _ (mustP_le _ _ (takeP_le 2 hs)) hk
theorem fieldRW {n : Nat} {l : List Tok} {s : RS} {x : Fi} {s' : RS} (hs : s.at_ ≤ l.length) (h : fieldP l n s = some (x,s')) : RdC 21 [] l s s' (fiA x):=by
 unfold fieldP at h
 obtain ⟨⟨t,s1⟩,hk,he⟩:=Option.map_eq_some_iff.1 h
 cases he
 have h1:=takeP_le (s:=s) 2 hs
 have h2:=mustP_le [(⟨#[58]⟩ : ByteArray)] _ h1
 have kC:=kindRC n l _ t s1 h2 hk
 refine RdC.intro fun S d i hR=>?_
 refine ADet.intro mixed Tryd.call21 Tryd.func21 rfl ?_
 simp [Tryd.ntmps21]
 refine ⟨_,_,(nameRW s).at hR hs _,?_⟩
 simp
 refine ⟨_,_,ADet.sub (.cons (.refl _) (.cons (.osl (.refl _)) (.refl _))) ((mustW (takeP l s 2) [(⟨#[58]⟩ : ByteArray)] (by simp) h1).at hR h1 _),?_⟩
 simp
 refine ⟨_,_,kC.at hR h2 _,?_⟩
 simp
theorem variantP_le {n : Nat} {l : List Tok} {s : RS} {x : Fi} {s' : RS} (hs : s.at_ ≤ l.length) (h : variantP l n s = some (x,s')) : s'.at_ ≤ l.length:=by
 unfold variantP at h
 have h1:=takeP_le (s:=s) 3 hs
 dsimp only at h
 split at h
 ·obtain ⟨⟨t,s1⟩,hk,he⟩:=Option.map_eq_some_iff.1 h
  cases he
  exact mustP_le _ _ (kindP_le n l _ t _ (mayP_le _ h1) hk)
 ·cases h; exact h1
theorem variantRW {n : Nat} {l : List Tok} {s : RS} {x : Fi} {s' : RS} (hs : s.at_ ≤ l.length) (h : variantP l n s = some (x,s')) : RdC 22 [] l s s' (fiA x):=by
 unfold variantP at h
 have h1:=takeP_le (s:=s) 3 hs
 have h2:=mayP_le (s:=takeP l s 3) (⟨#[40]⟩ : ByteArray) h1
 dsimp only at h
 cases hi : isP l (takeP l s 3) (⟨#[40]⟩ : ByteArray) 0 with
 | true =>
  rw [hi,if_pos rfl] at h
  obtain ⟨⟨t,s1⟩,hk,he⟩:=Option.map_eq_some_iff.1 h
  cases he
  have h3:=kindP_le n l _ t _ h2 hk
  have kC:=kindRC n l _ t s1 h2 hk
  refine RdC.intro fun S d i hR=>?_
  refine ADet.intro mixed Tryd.call22 Tryd.func22 rfl ?_
  simp [Tryd.ntmps22]
  refine ⟨_,_,(namedW s).at hR hs _,?_⟩
  simp
  refine ⟨_,_,(mayW _ (⟨#[40]⟩ : ByteArray)).at hR h1 _,?_⟩
  rw [hi]
  simp
  refine ⟨_,_,kC.at hR h2 _,?_⟩
  simp
  refine ⟨_,_,ADet.sub (.cons (.refl _) (.cons (.osl (.refl _)) (.refl _))) ((mustW s1 [(⟨#[41]⟩ : ByteArray)] (by simp) h3).at hR h3 _),?_⟩
  simp
 | false =>
  rw [hi,if_neg (by simp)] at h
  cases h
  have hm : mayP l (takeP l s 3) (⟨#[40]⟩ : ByteArray) = takeP l s 3:=by unfold mayP; rw [hi]; rfl
  refine RdC.less (r:=.agg [Sg (takeT l s 3),U 0,Sg emS,nilS]) (by repeat' constructor) (RdC.intro fun S d i hR=>?_)
  refine ADet.intro mixed Tryd.call22 Tryd.func22 rfl ?_
  simp [Tryd.ntmps22]
  refine ⟨_,_,(namedW s).at hR hs _,?_⟩
  simp
  refine ⟨_,_,(mayW _ (⟨#[40]⟩ : ByteArray)).at hR h1 _,?_⟩
  rw [hi,hm]
  simp
theorem listL_le {α : Type} {l : List Tok} {rd : RS → Option (α × RS)} (hrd : ∀ s x s',s.at_ ≤ l.length → rd s = some (x,s') → s'.at_ ≤ l.length) : ∀ (n : Nat) (acc : List α) (s : RS) (xs : List α) (s' : RS),s.at_ ≤ l.length → listL l rd n acc s = some (xs,s') → s'.at_ ≤ l.length ∧ xs.length ≤ acc.length + n
 | 0,acc,s,xs,s',hs,h=>by simp [listL] at h
 | n + 1,acc,s,xs,s',hs,h=>by
  unfold listL at h
  split at h
  ·split at h
   ·cases h
   ·rename_i x s1 h1
    have:=listL_le hrd n _ s1 xs s' (hrd _ _ _ (mayP_le _ hs) h1) h
    simp at this
    exact ⟨this.1,by omega⟩
  ·cases h; exact ⟨hs,by omega⟩
theorem listP_le {α : Type} {l : List Tok} {rd : RS → Option (α × RS)} (hrd : ∀ s x s',s.at_ ≤ l.length → rd s = some (x,s') → s'.at_ ≤ l.length) {e : ByteArray} {n : Nat} {s : RS} {xs : List α} {s' : RS} (hs : s.at_ ≤ l.length) (h : listP l rd e n s = some (xs,s')) : s'.at_ ≤ l.length:=by
 unfold listP at h
 split at h
 ·cases h; exact mayP_le _ hs
 split at h
 ·cases h
 rename_i x s1 h1
 obtain ⟨⟨ys,s2⟩,hk,he⟩:=Option.map_eq_some_iff.1 h
 cases he
 exact mustP_le [e] _ (listL_le hrd n [x] s1 _ _ (hrd _ _ _ hs h1) hk).1
theorem listFieldC {K : Nat} {l : List Tok} {rd : RS → Option (Fi × RS)} (hle : ∀ s x s',s.at_ ≤ l.length → rd s = some (x,s') → s'.at_ ≤ l.length) (hrd : ∀ s x s',s.at_ ≤ l.length → rd s = some (x,s') → RdC K [] l s s' (fiA x)) {e : ByteArray} {n : Nat} (hn : n ≤ 100000) {s : RS} {xs : List Fi} {s' : RS} (hs : s.at_ ≤ l.length) (h : listP l rd e n s = some (xs,s')) :
  RdF 20 (fun d i=>[Sg e,.fn (.func K) [.ptr d i 0] []]) l s s' (.p (.sl 4 (xs.map Fi.enc))):=by
 unfold listP at h
 cases hi : isP l s e 0 with
 | true =>
  rw [hi,if_pos rfl] at h
  cases h
  refine RdF.less (r:=nilS) (by repeat' constructor) (RdF.intro fun S d i hR=>?_)
  refine ADet.intro mixed Tryd.call20 Tryd.func20 rfl ?_
  simp [Tryd.ntmps20]
  refine ⟨_,_,(mayW s e).at hR hs _,?_⟩
  rw [hi]
  simp
 | false =>
 rw [hi,if_neg (by simp)] at h
 split at h
 ·cases h
 rename_i x s1 h1
 obtain ⟨⟨ys,s2⟩,hk,he⟩:=Option.map_eq_some_iff.1 h
 cases he
 have hm : mayP l s e = s:=by unfold mayP; rw [hi]; rfl
 have hs1:=hle _ _ _ hs h1
 have xC:=hrd _ _ _ hs h1
 obtain ⟨hs2,hyl⟩:=listL_le hle n [x] s1 _ _ hs1 hk
 have hyl : ys.length ≤ n + 1:=by simp at hyl; omega
 have hs3:=mustP_le [e] _ hs2
 refine RdF.intro fun S d i hR=>?_
 refine ADet.intro mixed Tryd.call20 Tryd.func20 rfl ?_
 simp [Tryd.ntmps20]
 refine ⟨_,_,(mayW s e).at hR hs _,?_⟩
 rw [hi,hm]
 simp
 refine ⟨_,_,xC.at hR hs _,?_⟩
 simp
 refine awp_loop (fun a : Nat × List Fi × RS=>listL l rd a.1 a.2.1 a.2.2 = some (ys,s2) ∧ a.2.1.length + a.1 ≤ n + 1 ∧ 0 < a.2.1.length ∧ a.2.2.at_ ≤ l.length) (fun a=>([.ptr (d + 1) i 0,Sg e,.fn (.func K) [.ptr (d + 1) i 0] [],.any,.any,.any,.any,.osl 4 (a.2.1.map Fi.enc) 0 0] ++ List.replicate 22 .any)) (fun a=>[.tok 73 4 a.2.1.length] :: set2 S d i (rdO l a.2.2)) (fun a=>a.1) (n,[x],s1) ⟨hk,by simp; omega,by simp,hs1⟩ ?_ ?_ ?_
 ·simp [Fi.enc]
 ·simp
 rintro ⟨k,acc,s4⟩ ⟨hl,hkn,hac,hs4⟩
 simp only at hl hkn hac hs4
 cases k with
 | zero=>simp [listL] at hl
 | succ k =>
 unfold listL at hl
 simp
 refine ⟨_,_,(mayW s4 (⟨#[44]⟩ : ByteArray)).at hR hs4 _,?_⟩
 cases hc : isP l s4 (⟨#[44]⟩ : ByteArray) 0 with
 | true =>
  rw [hc,if_pos rfl] at hl
  split at hl
  ·cases hl
  rename_i y s5 h5
  have hm4:=mayP_le (s:=s4) (⟨#[44]⟩ : ByteArray) hs4
  have yC:=hrd _ _ _ hm4 h5
  have hs5:=hle _ _ _ hm4 h5
  have hap : acc.length + 1 ≤ 4294967296:=by omega
  simp
  refine ⟨_,_,yC.at hR hm4 _,?_⟩
  simp [hap]
  exact ⟨k,acc ++ [y],s5,⟨hl,by simp; omega,by simp,hs5⟩,by omega,by simp [Fi.enc],by simp,rfl⟩
 | false =>
  rw [hc,if_neg (by simp)] at hl
  cases hl
  have hm4 : mayP l s2 (⟨#[44]⟩ : ByteArray) = s2:=by unfold mayP; rw [hc]; rfl
  rw [hm4]
  simp
  refine ⟨_,_,ADet.sub (.cons (.refl _) (.cons (.osl (.refl _)) (.refl _))) ((mustW s2 [e] (by simp) hs2).at hR hs2 _),?_⟩
  simp
  refine ⟨_,_,(fewW (mustP l s2 [e]) ys.length).at hR hs3 _,?_⟩
  simp
end Go.Proofs.YtfiohepfohhibaaDoor
namespace Go.Proofs.YtfiohepfohhibaaDoor
open Go.RowKit
attribute [local simp] List.replicate List.range List.range.loop resA resOne retA AV.cuts AV.cut AObj.cut trim wkR wkT wkL wkN wkNR wkNL wkM wkMR wkML virtL virtO virt_get markL markO markR_get rowA awpI_nil awpI_cons List.forall_mem_cons List.contains_cons List.contains_nil List.find? nextD_eq awpD_nil awpD_cons LCp LCl refL
theorem pathL_le {l : List Tok} : ∀ (n : Nat) (acc : List ByteArray) (s : RS) (xs : List ByteArray) (s' : RS),s.at_ ≤ l.length → pathL l n acc s = some (xs,s') → s'.at_ ≤ l.length ∧ xs.length ≤ acc.length + n ∧ s'.full = s.full
 | 0,acc,s,xs,s',hs,h=>by simp [pathL] at h
 | n + 1,acc,s,xs,s',hs,h=>by
  unfold pathL at h
  have fm : ∀ (s : RS) t,(mayP l s t).full = s.full:=fun s t=>by unfold mayP; split <;> rfl
  have ft : ∀ (s : RS) k,(takeP l s k).full = s.full:=fun s k=>by unfold takeP; split <;> rfl
  split at h
  ·dsimp only at h
   split at h
   ·have:=pathL_le n _ _ xs s' (mayP_le _ (mayP_le _ hs)) h
    simp at this
    exact ⟨this.1,by omega,by rw [this.2.2,fm,fm]⟩
   ·have:=pathL_le n _ _ xs s' (takeP_le 2 (mayP_le _ hs)) h
    simp at this
    exact ⟨this.1,by omega,by rw [this.2.2,ft,fm]⟩
  ·cases h; exact ⟨hs,by omega,rfl⟩
theorem pathP_le {n : Nat} {l : List Tok} {s : RS} {x : Pl} {s' : RS} (hs : s.at_ ≤ l.length) (h : pathP l n s = some (x,s')) : s'.at_ ≤ l.length ∧ s'.full = s.full:=by
 unfold pathP at h
 obtain ⟨⟨t,s1⟩,hk,he⟩:=Option.map_eq_some_iff.1 h
 cases he
 have:=pathL_le n _ _ t _ (takeP_le 2 hs) hk
 have ft : ∀ (s : RS) k,(takeP l s k).full = s.full:=fun s k=>by unfold takeP; split <;> rfl
 exact ⟨this.1,by rw [this.2.2,ft]⟩
theorem pathW {n : Nat} (hn : n ≤ 100000) {l : List Tok} {s : RS} {x : Pl} {s' : RS} (hs : s.at_ ≤ l.length) (h : pathP l n s = some (x,s')) : RdC 60 [] l s s' (plV x):=by
 unfold pathP at h
 obtain ⟨⟨ps,s1⟩,hk,he⟩:=Option.map_eq_some_iff.1 h
 cases he
 have h1:=takeP_le (s:=s) 2 hs
 refine RdC.intro fun S d i hR=>?_
 refine ADet.intro mixed Tryd.call60 Tryd.func60 rfl ?_
 simp [Tryd.ntmps60]
 refine ⟨_,_,(nameRW s).at hR hs _,?_⟩
 simp
 refine awp_loopG 9 1 (by decide) [.cells [.any,.any] 43,.cells [Sg (takeT l s 2),.osl 1 [] 0 2] 43] (fun a : Nat × List ByteArray × RS=>pathL l a.1 a.2.1 a.2.2 = some (ps,s1) ∧ a.2.1.length + a.1 ≤ n ∧ a.2.2.at_ ≤ l.length) (fun a=>([.ptr (d + 1) i 0,.any,.ptr 0 0 0,.ptr 0 1 0] ++ List.replicate 20 .any)) (fun a=>[.cells [.any,.any] 43,.cells [Sg (takeT l s 2),.osl 1 (a.2.1.map fun s=>[pS s]) 0 2] 43,.tok 9 1 a.2.1.length] :: set2 S d i (rdO l a.2.2)) (fun a=>a.1) (n,[],takeP l s 2) ⟨hk,by simp,h1⟩ ?_ ?_ ?_ ?_
 ·simp
 ·simp
 ·rfl
 rintro ⟨k,acc,s4⟩ ⟨hl,hkn,hs4⟩
 simp only at hl hkn hs4
 cases k with
 | zero=>simp [pathL] at hl
 | succ k =>
 unfold pathL at hl
 simp
 refine ⟨_,_,(mayW s4 (⟨#[46]⟩ : ByteArray)).at hR hs4 _,?_⟩
 cases hc : isP l s4 (⟨#[46]⟩ : ByteArray) 0 with
 | true =>
  rw [hc,if_pos rfl] at hl
  dsimp only at hl
  have hm4:=mayP_le (s:=s4) (⟨#[46]⟩ : ByteArray) hs4
  have hap : acc.length + 1 ≤ 4294967296:=by omega
  simp
  refine ⟨_,_,(mayW _ (⟨#[42]⟩ : ByteArray)).at hR hm4 _,?_⟩
  cases hd : isP l (mayP l s4 (⟨#[46]⟩ : ByteArray)) (⟨#[42]⟩ : ByteArray) 0 with
  | true =>
   rw [hd,if_pos rfl] at hl
   simp [hap]
   refine ⟨k,acc ++ [(⟨#[42]⟩ : ByteArray)],_,⟨hl,by simp; omega,mayP_le _ hm4⟩,by omega,⟨by simp,by simp⟩,rfl⟩
  | false =>
   rw [hd,if_neg (by simp)] at hl
   have hm5 : mayP l (mayP l s4 (⟨#[46]⟩ : ByteArray)) (⟨#[42]⟩ : ByteArray) = mayP l s4 (⟨#[46]⟩ : ByteArray):=by
    generalize mayP l s4 (⟨#[46]⟩ : ByteArray) = s5 at *
    unfold mayP; rw [hd]; rfl
   rw [hm5]
   simp
   refine awp_draw [(1,3),(1,4)] (by kernel_rfl) (by kernel_rfl) ?_
   simp
   refine ⟨_,_,(nameRW _).at hR hm4 _,?_⟩
   simp [hap]
   exact ⟨k,acc ++ [takeT l (mayP l s4 (⟨#[46]⟩ : ByteArray)) 2],_,⟨hl,by simp; omega,takeP_le 2 hm4⟩,by omega,⟨by simp,by simp⟩,rfl⟩
 | false =>
  rw [hc,if_neg (by simp)] at hl
  cases hl
  have hm4 : mayP l s1 (⟨#[46]⟩ : ByteArray) = s1:=by unfold mayP; rw [hc]; rfl
  rw [hm4]
  simp [strs]
def mapsK : List AObj:=[mapK (signsK 0),mapK (signsK 1),mapK (signsK 2),mapK (signsK 3),mapK (signsK 4),mapK (signsK 5)]
theorem signsC (k : Nat) (hk : k ≤ 5) (L : List AObj) (S : ASt) : ∃ X,ADet Tryd.prog 78 [I k] (L :: S) (.mp 0 (L.length + k)) ((L ++ mapsK ++ [X]) :: S):=by
 rcases (by omega : k = 0 ∨ k = 1 ∨ k = 2 ∨ k = 3 ∨ k = 4 ∨ k = 5) with rfl | rfl | rfl | rfl | rfl | rfl
 all_goals
  refine ⟨?_,ADet.flat mixed Tryd.call78 Tryd.func78 rfl ?_⟩
  rotate_left
  simp [Tryd.ntmps78,mapFind_nil,mapFind_str,mapK,signsK,sEq_ne,mapsK]
  rfl
def startK (d i : Nat) : List (ByteArray × Nat):=[((⟨#[108,101,116]⟩ : ByteArray),67),((⟨#[100,114,111,112]⟩ : ByteArray),68),((⟨#[105,102]⟩ : ByteArray),69),((⟨#[119,104,105,108,101]⟩ : ByteArray),70),((⟨#[109,97,116,99,104]⟩ : ByteArray),71),((⟨#[115,99,111,112,101]⟩ : ByteArray),72),((⟨#[115,112,97,119,110]⟩ : ByteArray),73),((⟨#[108,111,99,107]⟩ : ByteArray),74),((⟨#[99,104,97,110]⟩ : ByteArray),75),((⟨#[123]⟩ : ByteArray),76)]
def mapS (d i : Nat) : AObj:=.map ((startK d i).map fun x=>(.string x.1,.fn (.func x.2) [.ptr d i 0] []))
theorem startsC (d i : Nat) (L : List AObj) (S : ASt) : ADet Tryd.prog 59 [.ptr d i 0] (L :: S) (.mp 0 L.length) ((L ++ [mapS d i]) :: S):=by
 refine ADet.flat mixed Tryd.call59 Tryd.func59 rfl ?_
 simp [Tryd.ntmps59,mapFind_nil,mapFind_str,mapS,startK,sEq_ne]
theorem find_mapS (d i : Nat) (s : ByteArray) (h : startsK.any (fun t=>sEq s t) = false) : mapFind .string (.string s) ((startK d i).map fun x=>(.string x.1,.fn (.func x.2) [.ptr d i 0] [])) 0 = some none:=by
 simp only [startsK,List.any_cons,List.any_nil,Bool.or_eq_false_iff] at h
 obtain ⟨h1,h2,h3,h4,h5,h6,h7,h8,h9,h10,_⟩:=h
 simp only [startK,List.map_cons,List.map_nil,mapFind_str,h1,h2,h3,h4,h5,h6,h7,h8,h9,h10,Bool.false_eq_true,if_false]
 rfl
end Go.Proofs.YtfiohepfohhibaaDoor
namespace Go.Proofs.YtfiohepfohhibaaDoor
open Go.RowKit
attribute [local simp] List.replicate List.range List.range.loop resA resOne retA
abbrev itA (x : It) : AV:=.agg [U x.kind,Sg x.name,.p (.sl 4 (x.fields.map Fi.enc)),U x.result.kind,Sg x.result.name,.p (.sl 3 (x.result.args.map Ty.enc)),.p (.sl 15 (x.body.map St.enc)),
 U x.ret.op,I x.ret.int,Sg x.ret.name,Sg x.ret.second,Sg x.ret.place.name,.p (strs x.ret.place.path),.p (.sl 8 (x.ret.args.map Ex.enc)),I x.ret.pos,I x.pos]
abbrev itZ (k : Int) (nm : ByteArray) (fs : List Fi) (pos : Int) : AV:=.agg [U k,Sg nm,.p (.sl 4 (fs.map Fi.enc)),U 0,Sg emS,nilS,nilS,U 0,I 0,Sg emS,Sg emS,Sg emS,nilS,nilS,I 0,I pos]
theorem itZ_le (k : Int) (nm : ByteArray) (fs : List Fi) (pos : Int) : LeA (itZ k nm fs pos) (itA ⟨k,nm,fs,zeroT,[],zeroX,pos⟩):=by
 repeat' constructor
theorem placeRW {l : List Tok} (s : RS) : RdC 16 [] l s s (I (placeP l s)):=RdC.intro fun S d i h=>by
 rw [h.same]
 exact rAtC h
theorem itemStructC {n : Nat} (hn : n ≤ 100000) {l : List Tok} {s : RS} {x : It} {s' : RS} (hs : s.at_ ≤ l.length) (h1 : isP l s (⟨#[115,116,114,117,99,116]⟩ : ByteArray) 0 = true) (h : itemP l n s = some (x,s')) : RdC 12 [] l s s' (itA x):=by
 unfold itemP at h
 rw [h1,if_pos rfl] at h
 dsimp only at h
 obtain ⟨⟨fs,s1⟩,hk,he⟩:=Option.map_eq_some_iff.1 h
 cases he
 have hm1:=mayP_le (s:=s) (⟨#[115,116,114,117,99,116]⟩ : ByteArray) hs
 have hm2:=takeP_le (s:=mayP l s (⟨#[115,116,114,117,99,116]⟩ : ByteArray)) 3 hm1
 have hm3:=mustP_le [(⟨#[123]⟩ : ByteArray)] _ hm2
 have lC:=listFieldC (K:=21) (fun s x s' a b=>fieldP_le a b) (fun s x s' a b=>fieldRW a b) hn hm3 hk
 refine RdC.less (itZ_le _ _ _ _) (RdC.intro fun S d i hR=>?_)
 refine ADet.intro mixed Tryd.call12 Tryd.func12 rfl ?_
 simp [Tryd.ntmps12]
 refine ⟨_,_,(placeRW s).at hR hs _,?_⟩
 simp
 refine ⟨_,_,(mayW s (⟨#[115,116,114,117,99,116]⟩ : ByteArray)).at hR hs _,?_⟩
 rw [h1]
 simp
 refine ⟨_,_,(namedW _).at hR hm1 _,?_⟩
 simp
 refine ⟨_,_,ADet.sub (.cons (.refl _) (.cons (.osl (.refl _)) (.refl _))) ((mustW _ [(⟨#[123]⟩ : ByteArray)] (by simp) hm2).at hR hm2 _),?_⟩
 simp
 refine ⟨_,_,lC.at hR hm3 _,?_⟩
 simp
theorem itemEnumC {n : Nat} (hn : n ≤ 100000) {l : List Tok} {s : RS} {x : It} {s' : RS} (hs : s.at_ ≤ l.length) (h0 : isP l s (⟨#[115,116,114,117,99,116]⟩ : ByteArray) 0 = false) (h1 : isP l s (⟨#[101,110,117,109]⟩ : ByteArray) 0 = true) (h : itemP l n s = some (x,s')) : RdC 12 [] l s s' (itA x):=by
 unfold itemP at h
 rw [h0,if_neg (by simp),h1,if_pos rfl] at h
 dsimp only at h
 obtain ⟨⟨fs,s1⟩,hk,he⟩:=Option.map_eq_some_iff.1 h
 cases he
 have hm0 : mayP l s (⟨#[115,116,114,117,99,116]⟩ : ByteArray) = s:=by unfold mayP; rw [h0]; rfl
 have hm1:=mayP_le (s:=s) (⟨#[101,110,117,109]⟩ : ByteArray) hs
 have hm2:=takeP_le (s:=mayP l s (⟨#[101,110,117,109]⟩ : ByteArray)) 3 hm1
 have hm3:=mustP_le [(⟨#[123]⟩ : ByteArray)] _ hm2
 have lC:=listFieldC (K:=22) (fun s x s' a b=>variantP_le a b) (fun s x s' a b=>variantRW a b) hn hm3 hk
 refine RdC.less (itZ_le _ _ _ _) (RdC.intro fun S d i hR=>?_)
 refine ADet.intro mixed Tryd.call12 Tryd.func12 rfl ?_
 simp [Tryd.ntmps12]
 refine ⟨_,_,(placeRW s).at hR hs _,?_⟩
 simp
 refine ⟨_,_,(mayW s (⟨#[115,116,114,117,99,116]⟩ : ByteArray)).at hR hs _,?_⟩
 rw [h0,hm0]
 simp
 refine ⟨_,_,(mayW s (⟨#[101,110,117,109]⟩ : ByteArray)).at hR hs _,?_⟩
 rw [h1]
 simp
 refine ⟨_,_,(namedW _).at hR hm1 _,?_⟩
 simp
 refine ⟨_,_,ADet.sub (.cons (.refl _) (.cons (.osl (.refl _)) (.refl _))) ((mustW _ [(⟨#[123]⟩ : ByteArray)] (by simp) hm2).at hR hm2 _),?_⟩
 simp
 refine ⟨_,_,lC.at hR hm3 _,?_⟩
 simp
end Go.Proofs.YtfiohepfohhibaaDoor
namespace Go.Proofs.YtfiohepfohhibaaDoor
open Go.RowKit
attribute [local simp] List.replicate List.range List.range.loop resA resOne retA virtL virtO virt_get markL markO markR_get rowA awpI_nil awpI_cons List.forall_mem_cons List.contains_cons List.contains_nil List.find? nextD_eq awpD_nil awpD_cons LCp LCl refL
abbrev exZ : AV:=.agg [U 0,I 0,Sg emS,Sg emS,Sg emS,nilS,nilS,I 0]
theorem exZ_le : LeA exZ (exV zeroX):=by repeat' constructor
theorem simple_bad {l : List Tok} {s : RS} (hb : s.bad = true) : RdC 77 [] l s s exZ:=fun S d i hR=>by
 have ho:=hR.o
 have hset : set2 S d i (rdO l s) = S:=hR.same
 have hrd : rdO l ⟨s.at_,true,s.full⟩ = rdO l s:=by rw [← hb]
 refine ADet.intro mixed Tryd.call77 Tryd.func77 rfl ?_
 simp [Tryd.ntmps77]
 refine awp_draw [] (by kernel_rfl) (by kernel_rfl) ?_
 simp [ho,hb]
 exact congrArg (set2 S d i) hrd
theorem simple_end {l : List Tok} {s : RS} (hb : s.bad = false) (hlt : ¬ s.at_ < l.length) : RdC 77 [] l s ⟨s.at_,true,s.full⟩ exZ:=fun S d i hR=>by
 have ho:=hR.o
 have hlt' : (l.length : Int) ≤ (s.at_ : Int):=by omega
 refine ADet.intro mixed Tryd.call77 Tryd.func77 rfl ?_
 simp [Tryd.ntmps77]
 refine awp_draw [] (by kernel_rfl) (by kernel_rfl) ?_
 simp [ho,hb,hlt']
theorem simple_num {l : List Tok} {s : RS} {x : Tok} (hs : s.at_ ≤ l.length) (hb : s.bad = false) (hx : l[s.at_]? = some x) (hk : x.kind = 4) (h0 : x.text = ⟨#[48]⟩) : RdC 77 [] l s ⟨s.at_ + 1,s.bad,s.full⟩ (.agg [U 1,I 0,Sg emS,Sg emS,Sg emS,nilS,nilS,I x.pos]):=RdC.intro fun S d i hR=>by
 have ho:=(hR.upd s hs).o
 have hlt:=(List.getElem?_eq_some_iff.1 hx).1
 have hlt' : ¬ (l.length : Int) ≤ (s.at_ : Int):=by omega
 have hlt2 : (s.at_ : Int) < (l.length : Int):=by omega
 clear hlt
 have hh : handP l s 4 = true:=by unfold handP; rw [hb,hx]; simp [hk]
 have ht : takeT l s 4 = ⟨#[48]⟩:=by unfold takeT; rw [if_pos hh,hx]; exact h0
 have hp : takeP l s 4 = ⟨s.at_ + 1,s.bad,s.full⟩:=by unfold takeP; rw [if_pos hh]
 have tC:=takeW (l:=l) s 4
 rw [ht,hp] at tC
 have hsz : (⟨#[48]⟩ : ByteArray).data.toList = [48]:=rfl
 have nC:=fun S=>parseC ⟨#[48]⟩ (by decide) (by decide) (by rw [hsz]; decide) (by rw [hsz]; decide) S
 refine ADet.intro mixed Tryd.call77 Tryd.func77 rfl ?_
 simp [Tryd.ntmps77]
 refine awp_draw [] (by kernel_rfl) (by kernel_rfl) ?_
 simp [ho,hb,hlt']
 refine awp_draw [(3,10),(7,10),(9,10)] (by kernel_rfl) (by kernel_rfl) ?_
 simp [ho,hx,hlt2,Tok.enc,hk]
 refine ⟨_,_,tC.at hR hs _,?_⟩
 simp
 refine ⟨_,_,nC _,?_⟩
 simp [hsz,digitsN]
 rw [hb]
theorem simple_use {n : Nat} (hn : n ≤ 100000) {l : List Tok} {s : RS} {x : Tok} {p : Pl} {s' : RS} (hs : s.at_ ≤ l.length) (hb : s.bad = false) (hx : l[s.at_]? = some x) (hk : x.kind = 2) (hi : isP l s (⟨#[40]⟩ : ByteArray) 1 = false) (hp : pathP l n s = some (p,s')) : RdC 77 [] l s s' (exV (.mk 4 0 emS emS p [] x.pos)):=by
 refine RdC.less (r:=.agg [U 4,I 0,Sg emS,Sg emS,Sg p.name,.p (strs p.path),nilS,I x.pos]) (by repeat' constructor) (RdC.intro fun S d i hR=>?_)
 have ho:=(hR.upd s hs).o
 have hlt:=(List.getElem?_eq_some_iff.1 hx).1
 have hlt' : ¬ (l.length : Int) ≤ (s.at_ : Int):=by omega
 have hlt2 : (s.at_ : Int) < (l.length : Int):=by omega
 clear hlt
 have pC:=pathW hn hs hp
 have iC:=fun L=>isC ((hR.upd s hs).push L) (⟨#[40]⟩ : ByteArray) 1 (by omega)
 rw [hi] at iC
 refine ADet.intro mixed Tryd.call77 Tryd.func77 rfl ?_
 simp [Tryd.ntmps77]
 refine awp_draw [] (by kernel_rfl) (by kernel_rfl) ?_
 simp [ho,hb,hlt']
 refine awp_draw [(3,10),(7,10),(9,10)] (by kernel_rfl) (by kernel_rfl) ?_
 simp [ho,hx,hlt2,Tok.enc,hk]
 refine ⟨_,_,iC _,?_⟩
 simp
 refine awp_draw [(3,1)] (by kernel_rfl) (by kernel_rfl) ?_
 simp
 refine ⟨_,_,pC.at hR hs _,?_⟩
 simp
theorem simpleP_le {n : Nat} {l : List Tok} {s : RS} {e : Ex} {s' : RS} (hs : s.at_ ≤ l.length) (h : simpleP l n s = some (e,s')) : s'.at_ ≤ l.length:=by
 unfold simpleP at h
 split at h
 ·cases h; exact hs
 split at h
 ·cases h; exact hs
 rename_i x hx
 have hlt:=(List.getElem?_eq_some_iff.1 hx).1
 split at h
 ·split at h
  ·cases h; exact hlt
  ·cases h
 split at h
 ·obtain ⟨⟨t,s1⟩,hk,he⟩:=Option.map_eq_some_iff.1 h
  cases he
  exact (pathP_le hs hk).1
 ·cases h
theorem simpleW {n : Nat} (hn : n ≤ 100000) {l : List Tok} {s : RS} {e : Ex} {s' : RS} (hs : s.at_ ≤ l.length) (h : simpleP l n s = some (e,s')) : RdC 77 [] l s s' (exV e):=by
 unfold simpleP at h
 cases hb : s.bad with
 | true =>
  rw [hb,if_pos rfl] at h
  cases h
  exact (simple_bad hb).less exZ_le
 | false =>
 rw [hb,if_neg (by simp)] at h
 cases hx : l[s.at_]? with
 | none =>
  rw [hx] at h
  cases h
  have:=List.getElem?_eq_none_iff.1 hx
  exact (simple_end hb (by omega)).less exZ_le
 | some x =>
  rw [hx] at h
  dsimp only at h
  split at h
  ·rename_i hk
   split at h
   ·rename_i h0
    cases h
    rw [← hb]
    exact (simple_num hs hb hx hk h0).less (by repeat' constructor)
   ·cases h
  split at h
  ·rename_i hk
   obtain ⟨⟨t,s1⟩,hp,he⟩:=Option.map_eq_some_iff.1 h
   cases he
   exact simple_use hn hs hb hx hk.1 hk.2 hp
  ·cases h
end Go.Proofs.YtfiohepfohhibaaDoor
