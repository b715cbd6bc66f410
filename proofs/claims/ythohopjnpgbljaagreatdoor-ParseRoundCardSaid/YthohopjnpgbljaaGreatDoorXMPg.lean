/- A part of the proof. The statement is proved in the claim's last text. -/
import Derived.Test.YthohopjnpgbljaaGreatDoorXMWp
import Derived.Test.YthohopjnpgbljaaGreatDoorXMLt
import Derived.Test.YthohopjnpgbljaaGreatDoorXMLx
set_option linter.unusedVariables false
set_option linter.unusedSimpArgs false
set_option maxRecDepth 100000
set_option maxHeartbeats 32000000
namespace Go.Proofs.YthohopjnpgbljaaGreatDoor
open Go.RowKit
attribute [local simp] List.replicate List.range List.range.loop resA resOne retA AV.cuts AV.cut AObj.cut trim wkR wkT wkL wkN wkNR wkNL wkM wkMR wkML
theorem appS : appOkS Tryz.prog 76 9 5 = true:=by kernel_rfl
structure Pg where
 used : Bool
 bytes : ByteArray
 line : Bool
def put1 (p : Pg) (s : ByteArray) : Pg:=⟨true,(if p.line then p.bytes ++ (⟨#[32]⟩ : ByteArray) else p.bytes) ++ s,true⟩
def putT (l : List ByteArray) (p : Pg) : Pg:=l.foldl put1 p
theorem putT_nil (p : Pg) : putT [] p = p:=rfl
theorem putT_cons (s : ByteArray) (l : List ByteArray) (p : Pg) : putT (s :: l) p = putT l (put1 p s):=rfl
theorem putT_append (a b : List ByteArray) (p : Pg) : putT (a ++ b) p = putT b (putT a p):=by simp [putT,List.foldl_append]
theorem put1_size (p : Pg) (s : ByteArray) : p.bytes.size ≤ (put1 p s).bytes.size ∧ (put1 p s).bytes.size ≤ p.bytes.size + s.size + 1 ∧ (if p.line then p.bytes.size + 1 else p.bytes.size) + s.size = (put1 p s).bytes.size:=by
 have hs : (⟨#[32]⟩ : ByteArray).size = 1:=rfl
 obtain ⟨u,b,l⟩:=p
 cases l with
 | false =>
  have e : (put1 ⟨u,b,false⟩ s).bytes.size = b.size + s.size:=by show (b ++ s).size = _; rw [ByteArray.size_append]
  rw [e]
  exact ⟨by show b.size ≤ _; omega,by show _ ≤ b.size + s.size + 1; omega,rfl⟩
 | true =>
  have e : (put1 ⟨u,b,true⟩ s).bytes.size = b.size + 1 + s.size:=by show ((b ++ (⟨#[32]⟩ : ByteArray)) ++ s).size = _; rw [ByteArray.size_append,ByteArray.size_append,hs]
  rw [e]
  exact ⟨by show b.size ≤ _; omega,by show _ ≤ b.size + s.size + 1; omega,rfl⟩
theorem putT_size (l : List ByteArray) (p : Pg) : p.bytes.size ≤ (putT l p).bytes.size:=by
 induction l generalizing p with
 | nil=>exact Nat.le_refl _
 | cons s l ih=>exact Nat.le_trans (put1_size p s).1 (ih _)
theorem putT_mid {a b : List ByteArray} {p : Pg} {n : Nat} (h : (putT (a ++ b) p).bytes.size ≤ n) : (putT a p).bytes.size ≤ n:=by
 rw [putT_append] at h
 exact Nat.le_trans (putT_size b _) h
theorem bytesR_append (a b : ByteArray) : bytesR (a ++ b) = bytesR a ++ bytesR b:=by simp [bytesR]
def adrA (used : Bool) (i : Nat) : AV:=if used then .ptr 0 i 0 else .p (.v (.pointer none))
def pgO (i j : Nat) (p : Pg) : AObj:=.cells [adrA p.used i,.osl 1 (bytesR p.bytes) 0 j,B p.line] 82
def tkO (p : Pg) : AObj:=.tok 5 1 p.bytes.size
structure At (S : ASt) (d i j : Nat) (p : Pg) : Prop where
 o : get2 S d i = some (pgO i j p)
 t : get2 S d j = some (tkO p)
 ne : i ≠ j
def upd (S : ASt) (d i j : Nat) (p : Pg) : ASt:=set2 (set2 S d i (pgO i j p)) d j (tkO p)
theorem At.push {S : ASt} {d i j : Nat} {p : Pg} (h : At S d i j p) (L : List AObj) : At (L :: S) (d + 1) i j p:=⟨h.o,h.t,h.ne⟩
theorem At.upd {S : ASt} {d i j : Nat} {p : Pg} (h : At S d i j p) (q : Pg) : At (upd S d i j q) d i j q:=by
 refine ⟨?_,?_,h.ne⟩
 ·unfold Go.Proofs.YthohopjnpgbljaaGreatDoor.upd
  rw [get2_set2_ne _ _ _ h.ne.symm,get2_set2,h.o]; rfl
 ·unfold Go.Proofs.YthohopjnpgbljaaGreatDoor.upd
  rw [get2_set2,get2_set2_ne _ _ _ h.ne,h.t]; rfl
theorem upd_upd {S : ASt} {d i j : Nat} (hne : i ≠ j) (p q : Pg) : upd (upd S d i j p) d i j q = upd S d i j q:=by
 unfold upd
 rw [set2_comm _ _ _ _ hne,set2_set2,set2_set2]
theorem upd_suc (L : List AObj) (S : ASt) (d i j : Nat) (p : Pg) : upd (L :: S) (d + 1) i j p = L :: upd S d i j p:=by
 unfold upd; rw [set2_suc,set2_suc]
theorem At.same {S : ASt} {d i j : Nat} {p : Pg} (h : At S d i j p) : Go.Proofs.YthohopjnpgbljaaGreatDoor.upd S d i j p = S:=by
 unfold Go.Proofs.YthohopjnpgbljaaGreatDoor.upd
 rw [set2_same h.o,set2_same h.t]
theorem upd_line {S : ASt} {d i j : Nat} {p : Pg} (h : At S d i j p) (q q' : Pg) : set2 (set2 (upd S d i j q) d i (pgO i j q')) d j (tkO q') = upd S d i j q':=by
 unfold upd
 rw [set2_comm _ _ _ _ h.ne,set2_set2,set2_set2]
theorem adr_ok (used : Bool) (i : Nat) : adrA used i = .p (.v (.pointer none)) ∨ adrA used i = .ptr 0 i 0:=by cases used <;> simp [adrA]
theorem cc_at {S : ASt} {d i j : Nat} {p : Pg} (h : At S d i j p) : ADet Tryz.prog 86 [.ptr d i 0] S .un (upd S d i j { p with used:=true }):=by
 have:=copyCheckA S d i _ _ h.o (adr_ok _ _) rfl
 have e : set2 S d i (.cells (.ptr 0 i 0 :: [.osl 1 (bytesR p.bytes) 0 j,B p.line]) 82) = upd S d i j { p with used:=true }:=by
  unfold upd
  have ht : get2 (set2 S d i (pgO i j { p with used:=true })) d j = some (tkO p):=by rw [get2_set2_ne _ _ _ h.ne]; exact h.t
  rw [show tkO { p with used:=true } = tkO p from rfl,set2_same ht]
  rfl
 rw [e] at this
 exact this
theorem writeString {S : ASt} {d i j : Nat} {p : Pg} (h : At S d i j p) (s : ByteArray) (hb : p.bytes.size + s.size ≤ 4294967296) :
  ADet Tryz.prog 54 [.ptr d i 0,Sg s] S (.tup [I s.size,.p (.v .nilIface)]) (upd S d i j ⟨true,p.bytes ++ s,p.line⟩):=by
 refine ADet.intro mixed Tryz.call54 Tryz.func54 rfl ?_
 simp [Tryz.ntmps54]
 refine ⟨_,_,cc_at (h.push []),?_⟩
 have ho:=(h.upd { p with used:=true }).o
 have ht:=(h.upd { p with used:=true }).t
 simp only [pgO,tkO,adrA,if_true] at ho ht
 have hb' : (bytesR p.bytes).length + s.size ≤ 4294967296:=by rw [bytesR_len]; exact hb
 simp [upd_suc,ho,ht,get2_set2_ne _ _ _ h.ne,get2_set2_ne _ _ _ h.ne.symm,appS,bytesR_len,hb,hb']
 rw [set2_comm _ _ _ _ h.ne]
 have hu:=upd_line h { p with used:=true } ⟨true,p.bytes ++ s,p.line⟩
 simp [pgO,tkO,adrA,bytesR_append,ByteArray.size_append] at hu
 exact hu
theorem writeByte {S : ASt} {d i j : Nat} {p : Pg} (h : At S d i j p) (c : UInt8) (hb : p.bytes.size + 1 ≤ 4294967296) :
  ADet Tryz.prog 53 [.ptr d i 0,U c.toNat] S (.p (.v .nilIface)) (upd S d i j ⟨true,p.bytes ++ (⟨#[c]⟩ : ByteArray),p.line⟩):=by
 refine ADet.intro mixed Tryz.call53 Tryz.func53 rfl ?_
 simp [Tryz.ntmps53]
 refine ⟨_,_,cc_at (h.push []),?_⟩
 have ho:=(h.upd { p with used:=true }).o
 have ht:=(h.upd { p with used:=true }).t
 simp only [pgO,tkO,adrA,if_true] at ho ht
 have hb' : (bytesR p.bytes).length + 1 ≤ 4294967296:=by rw [bytesR_len]; exact hb
 simp [upd_suc,ho,ht,get2_set2_ne _ _ _ h.ne,get2_set2_ne _ _ _ h.ne.symm,bytesR_len,hb,hb']
 rw [set2_comm _ _ _ _ h.ne]
 have hu:=upd_line h { p with used:=true } ⟨true,p.bytes ++ (⟨#[c]⟩ : ByteArray),p.line⟩
 have hs : (⟨#[c]⟩ : ByteArray).size = 1:=rfl
 have hr : bytesR (⟨#[c]⟩ : ByteArray) = [[.v (.int .u8 c.toNat)]]:=rfl
 simp [pgO,tkO,adrA,bytesR_append,ByteArray.size_append,hs,hr] at hu
 exact hu
theorem putC {S : ASt} {d i j : Nat} {p : Pg} (h : At S d i j p) (l : List ByteArray) (hb : (putT l p).bytes.size ≤ 4294967296) :
  ADet Tryz.prog 29 [.ptr d i 0,.p (strs l)] S .un (upd S d i j (putT l p)):=by
 unfold strs
 refine ADet.okP Tryz.call29 1 rfl fun hok=>?_
 have hlen:=okl hok
 refine ADet.intro mixed Tryz.call29 Tryz.func29 rfl ?_
 simp [Tryz.ntmps29]
 refine awp_loop (fun q : Nat=>q ≤ l.length) (fun q=>([.ptr (d + 1) i 0,.any,.any,.any,.any,.any,.p (.sl 1 (l.map fun s=>[pS s])),I l.length,I q] ++ List.replicate 20 .any)) (fun q=>[] :: upd S d i j (putT (l.take q) p)) (fun q=>l.length - q) 0 (Nat.zero_le _) ?_ ?_ ?_
 ·simp
 ·simp [putT_nil,h.same]
 rintro q hq
 by_cases hlt : q < l.length
 ·have hT : putT (l.take (q + 1)) p = put1 (putT (l.take q) p) l[q]:=by rw [take_snoc l hlt,putT_append]; rfl
  have hle : (putT (l.take (q + 1)) p).bytes.size ≤ 4294967296:=putT_mid (b:=l.drop (q + 1)) (by rw [List.take_append_drop]; exact hb)
  rw [hT] at hle
  have hsz:=put1_size (putT (l.take q) p) l[q]
  generalize putT (l.take q) p = p1 at *
  generalize hs : l[q] = s at *
  obtain ⟨u,bs,ln⟩:=p1
  have ho:=(h.upd ⟨u,bs,ln⟩).o
  simp only [pgO] at ho
  have fin : ∀ (b2 : ByteArray) (l2 : Bool),set2 (upd S d i j ⟨true,b2,l2⟩) d i (.cells [.ptr 0 i 0,.osl 1 (bytesR b2) 0 j,B true] 82) = upd S d i j ⟨true,b2,true⟩:=fun b2 l2=>by
   have hu:=upd_line h ⟨true,b2,l2⟩ ⟨true,b2,true⟩
   have ht:=(h.upd ⟨true,b2,l2⟩).t
   rw [← hu,set2_same (o:=tkO ⟨true,b2,true⟩)]
   ·rfl
   ·rw [get2_set2_ne _ _ _ h.ne]; exact ht
  cases ln with
  | true =>
   simp at hsz
   simp [hlt,hs,ho]
   refine ⟨_,_,writeByte ((h.upd ⟨u,bs,true⟩).push []) 32 (by show bs.size + 1 ≤ _; omega),?_⟩
   simp [upd_suc,upd_upd h.ne]
   refine ⟨_,_,writeString ((h.upd ⟨true,bs ++ (⟨#[32]⟩ : ByteArray),true⟩).push []) s (by rw [ByteArray.size_append]; exact Nat.le_trans (Nat.le_of_eq hsz.2.2) hle),?_⟩
   have ho2:=(h.upd ⟨true,bs ++ (⟨#[32]⟩ : ByteArray) ++ s,true⟩).o
   simp only [pgO,adrA,if_true] at ho2
   simp [upd_suc,upd_upd h.ne,ho2,fin]
   exact ⟨q + 1,hlt,by omega,wrap_succ hlt,by rw [hT]; rfl⟩
  | false =>
   simp at hsz
   simp [hlt,hs,ho]
   refine ⟨_,_,writeString ((h.upd ⟨u,bs,false⟩).push []) s (by show bs.size + s.size ≤ _; omega),?_⟩
   have ho2:=(h.upd ⟨true,bs ++ s,false⟩).o
   simp only [pgO,adrA,if_true] at ho2
   simp [upd_suc,upd_upd h.ne,ho2,fin]
   exact ⟨q + 1,hlt,by omega,wrap_succ hlt,by rw [hT]; rfl⟩
 ·have : l.take q = l:=List.take_of_length_le (by omega)
  simp [hlt,this]
def tl : List ByteArray → Nat
 | []=>0
 | s :: l=>s.size + 1 + tl l
theorem tl_nil : tl [] = 0:=rfl
theorem tl_cons (s : ByteArray) (l : List ByteArray) : tl (s :: l) = s.size + 1 + tl l:=rfl
theorem tl_append (a b : List ByteArray) : tl (a ++ b) = tl a + tl b:=by
 induction a with
 | nil=>simp [tl]
 | cons s l ih=>simp [tl,ih]; omega
theorem putT_tl (l : List ByteArray) (p : Pg) : (putT l p).bytes.size ≤ p.bytes.size + tl l:=by
 induction l generalizing p with
 | nil=>exact Nat.le_refl _
 | cons s l ih =>
  have:=ih (put1 p s)
  have h2:=(put1_size p s).2.1
  rw [putT_cons,tl_cons]; omega
def WrC (F : Nat) (args : List AV) (l : List ByteArray) : Prop:=∀ (S : ASt) (d i j : Nat) (p : Pg),At S d i j p → p.bytes.size + tl l ≤ 4294967296 → ADet Tryz.prog F (.ptr d i 0 :: args) S .un (upd S d i j (putT l p))
theorem putW (l : List ByteArray) : WrC 29 [.p (strs l)] l:=fun S d i j p h hb=>putC h l (Nat.le_trans (putT_tl l p) hb)
theorem ADet.toP {P : Program} {F : FuncId} {as1 as2 : List AV} {v : AV} {q : PV} {S S' : ASt} {r : AV} (hv : v.toP = some q) (h : ADet P F (as1 ++ .p q :: as2) S r S') : ADet P F (as1 ++ v :: as2) S r S':=by
 refine ⟨h.1,fun Pr φ xs w hargs hR hne=>h.2 Pr φ xs w ⟨by rw [← hargs.1]; simp,fun j c x hc hx=>?_⟩ hR hne⟩
 rcases Nat.lt_trichotomy j as1.length with hj | hj | hj
 ·rw [List.getElem?_append_left hj] at hc
  exact hargs.2 j c x (by rw [List.getElem?_append_left hj]; exact hc) hx
 ·subst hj
  rw [List.getElem?_append_right (Nat.le_refl _),Nat.sub_self] at hc
  cases hc
  exact .p ((hargs.2 as1.length v x (by simp) hx).toP hv)
 ·have hj' : as1.length ≤ j:=by omega
  obtain ⟨k,hk⟩ : ∃ k,j - as1.length = k + 1:=⟨j - as1.length - 1,by omega⟩
  rw [List.getElem?_append_right hj',hk] at hc
  exact hargs.2 j c x (by rw [List.getElem?_append_right hj',hk]; exact hc) hx
theorem putV (l : List ByteArray) {v : AV} (hv : v.toP = some (strs l)) : WrC 29 [v] l:=fun S d i j p h hb=>ADet.toP (as1:=[.ptr d i 0]) (as2:=[]) hv (putW l S d i j p h hb)
theorem WrC.at {F : Nat} {args : List AV} {l : List ByteArray} (hw : WrC F args l) {S : ASt} {d i j : Nat} {p : Pg} (h : At S d i j p) (L : List AObj) (tk : List ByteArray) (hb : p.bytes.size + (tl tk + tl l) ≤ 4294967296) :
  ADet Tryz.prog F (.ptr (d + 1) i 0 :: args) (L :: upd S d i j (putT tk p)) .un (L :: upd S d i j (putT (tk ++ l) p)):=by
 have h1:=(h.upd (putT tk p)).push L
 have:=hw _ _ i j _ h1 (by have:=putT_tl tk p; omega)
 rw [upd_suc,upd_upd h.ne,← putT_append] at this
 exact this
theorem WrC.intro {F : Nat} {args : List AV} {l : List ByteArray} (hw : ∀ (S : ASt) (d i j : Nat) (p : Pg),At S d i j p → p.bytes.size + tl l ≤ 4294967296 → ADet Tryz.prog F (.ptr d i 0 :: args) (upd S d i j (putT [] p)) .un (upd S d i j (putT l p))) : WrC F args l:=fun S d i j p h hb=>by
 have:=hw S d i j p h hb
 rw [putT_nil,h.same] at this
 exact this
theorem WrC.at1 {F : Nat} {args : List AV} {l : List ByteArray} (hw : WrC F args l) {S : ASt} {d i j : Nat} {p0 : Pg} (h : At S d i j p0) (p : Pg) (L : List AObj) (hb : p.bytes.size + tl l ≤ 4294967296) :
  ADet Tryz.prog F (.ptr (d + 1) i 0 :: args) (L :: upd S d i j p) .un (L :: upd S d i j (putT l p)):=by
 have:=hw _ _ i j _ ((h.upd p).push L) hb
 rw [upd_suc,upd_upd h.ne] at this
 exact this
theorem WrC.at2 {F : Nat} {args : List AV} {l : List ByteArray} (hw : WrC F args l) {S : ASt} {d i j : Nat} {p0 : Pg} (h : At S d i j p0) (p : Pg) (L L' : List AObj) (hb : p.bytes.size + tl l ≤ 4294967296) :
  ADet Tryz.prog F (.ptr (d + 2) i 0 :: args) (L :: L' :: upd S d i j p) .un (L :: L' :: upd S d i j (putT l p)):=by
 have:=hw _ _ i j _ (((h.upd p).push L').push L) hb
 rw [upd_suc,upd_suc,upd_upd h.ne] at this
 exact this
theorem WrC.at3 {F : Nat} {args : List AV} {l : List ByteArray} (hw : WrC F args l) {S : ASt} {d i j : Nat} {p0 : Pg} (h : At S d i j p0) (p : Pg) (L L' L'' : List AObj) (hb : p.bytes.size + tl l ≤ 4294967296) :
  ADet Tryz.prog F (.ptr (d + 3) i 0 :: args) (L :: L' :: L'' :: upd S d i j p) .un (L :: L' :: L'' :: upd S d i j (putT l p)):=by
 have:=hw _ _ i j _ ((((h.upd p).push L'').push L').push L) hb
 rw [upd_suc,upd_suc,upd_suc,upd_upd h.ne] at this
 exact this
theorem At.o' {S : ASt} {d i j : Nat} {p : Pg} (h : At S d i j p) (q : Pg) : get2 (Go.Proofs.YthohopjnpgbljaaGreatDoor.upd S d i j q) d i = some (pgO i j q):=(h.upd q).o
end Go.Proofs.YthohopjnpgbljaaGreatDoor
namespace Go.Proofs.YthohopjnpgbljaaGreatDoor
open Go.RowKit
def lineB : List ByteArray → ByteArray
 | []=>emS
 | s :: l=>l.foldl (fun b t=>b ++ (⟨#[32]⟩ : ByteArray) ++ t) s
theorem lineB_tl : ∀ l : List ByteArray,(lineB l).size ≤ tl l
 | []=>Nat.le_refl _
 | s :: l=>by
  have key : ∀ (l : List ByteArray) (b : ByteArray),(l.foldl (fun b t=>b ++ (⟨#[32]⟩ : ByteArray) ++ t) b).size ≤ b.size + tl l:=fun l=>by
   induction l with
   | nil=>intro b; exact Nat.le_refl _
   | cons t l ih =>
    intro b
    have:=ih (b ++ (⟨#[32]⟩ : ByteArray) ++ t)
    have hs : (⟨#[32]⟩ : ByteArray).size = 1:=rfl
    rw [ByteArray.size_append,ByteArray.size_append,hs] at this
    rw [List.foldl_cons,tl_cons]; omega
  have:=key l s
  rw [tl_cons]; simp only [lineB]; omega
end Go.Proofs.YthohopjnpgbljaaGreatDoor
namespace Go.Proofs.YthohopjnpgbljaaGreatDoor
open Go.RowKit
def kindL : List ByteArray:=[emS,(⟨#[105,110,116]⟩ : ByteArray),(⟨#[98,111,111,108]⟩ : ByteArray),(⟨#[117,110,105,116]⟩ : ByteArray),emS,(⟨#[66,111,120]⟩ : ByteArray),(⟨#[67,101,108,108]⟩ : ByteArray),(⟨#[82,99]⟩ : ByteArray),(⟨#[65,114,99]⟩ : ByteArray),(⟨#[77,117,116,101,120]⟩ : ByteArray),(⟨#[65,116,111,109,105,99]⟩ : ByteArray),(⟨#[83,101,110,100,101,114]⟩ : ByteArray),(⟨#[82,101,99,101,105,118,101,114]⟩ : ByteArray)]
def kindW (k : Int) : ByteArray:=kindL.getD k.toNat emS
mutual
def Ty.tk : Ty → List ByteArray
 | .mk k n l=>if k = 4 then [n] else if k = 13 then (⟨#[38]⟩ : ByteArray) :: Ty.tkh l else if k = 14 then (⟨#[38]⟩ : ByteArray) :: (⟨#[109,117,116]⟩ : ByteArray) :: Ty.tkh l else if l.length = 0 then [kindW k] else kindW k :: (⟨#[60]⟩ : ByteArray) :: (Ty.tkh l ++ [(⟨#[62]⟩ : ByteArray)])
def Ty.tkh : List Ty → List ByteArray
 | []=>[]
 | t :: _=>t.tk
end
def pathTk : List ByteArray → List ByteArray
 | []=>[]
 | s :: l=>(⟨#[46]⟩ : ByteArray) :: s :: pathTk l
def Pl.tk (x : Pl) : List ByteArray:=x.name :: pathTk x.path
theorem pathTk_append (a b : List ByteArray) : pathTk (a ++ b) = pathTk a ++ pathTk b:=by
 induction a with
 | nil=>rfl
 | cons s l ih=>simp [pathTk,ih]
def signB (op : Int) : ByteArray :=
 if op = 17 then (⟨#[111,114]⟩ : ByteArray) else if op = 16 then (⟨#[97,110,100]⟩ : ByteArray) else if op = 8 then (⟨#[110,111,116]⟩ : ByteArray) else if op = 14 then (⟨#[60]⟩ : ByteArray) else if op = 15 then (⟨#[61,61]⟩ : ByteArray) else if op = 9 then (⟨#[43]⟩ : ByteArray) else if op = 10 then (⟨#[45]⟩ : ByteArray) else if op = 11 then (⟨#[42]⟩ : ByteArray) else if op = 12 then (⟨#[47]⟩ : ByteArray) else if op = 13 then (⟨#[37]⟩ : ByteArray) else if op = 7 then (⟨#[45]⟩ : ByteArray) else emS
def signI (op : Int) : Int :=
 if op = 17 then 0 else if op = 16 then 1 else if op = 8 then 2 else if op = 14 then 3 else if op = 15 then 3 else if op = 9 then 4 else if op = 10 then 4 else if op = 11 then 5 else if op = 12 then 5 else if op = 13 then 5 else if op = 7 then 6 else 7
def wordL (op : Int) : ByteArray :=
 if op = 21 then (⟨#[98,111,120]⟩ : ByteArray) else if op = 22 then (⟨#[117,110,98,111,120]⟩ : ByteArray) else if op = 23 then (⟨#[99,101,108,108]⟩ : ByteArray) else if op = 24 then (⟨#[103,101,116]⟩ : ByteArray) else if op = 25 then (⟨#[115,101,116]⟩ : ByteArray) else if op = 26 then (⟨#[114,99]⟩ : ByteArray) else if op = 27 then (⟨#[97,114,99]⟩ : ByteArray) else if op = 28 then (⟨#[99,108,111,110,101]⟩ : ByteArray) else if op = 29 then (⟨#[109,117,116,101,120]⟩ : ByteArray) else if op = 30 then (⟨#[111,112,101,110]⟩ : ByteArray) else if op = 31 then (⟨#[97,116,111,109,105,99]⟩ : ByteArray) else if op = 32 then (⟨#[108,111,97,100]⟩ : ByteArray) else if op = 33 then (⟨#[115,116,111,114,101]⟩ : ByteArray) else if op = 34 then (⟨#[102,101,116,99,104]⟩ : ByteArray) else if op = 35 then (⟨#[115,101,110,100]⟩ : ByteArray) else (⟨#[114,101,99,118]⟩ : ByteArray)
def commas : List (List ByteArray) → List ByteArray
 | []=>[]
 | a :: l=>a ++ l.flatMap fun x=>(⟨#[44]⟩ : ByteArray) :: x
theorem commas_append (a b : List (List ByteArray)) : ∃ r,commas (a ++ b) = commas a ++ r:=by
 cases a with
 | nil=>exact ⟨commas b,by simp [commas]⟩
 | cons x a=>exact ⟨b.flatMap fun x=>(⟨#[44]⟩ : ByteArray) :: x,by simp [commas]⟩
theorem commas_snoc (l : List (List ByteArray)) (x : List ByteArray) : commas (l ++ [x]) = commas l ++ ((if l.length = 0 then [] else [(⟨#[44]⟩ : ByteArray)]) ++ x):=by
 cases l with
 | nil=>simp [commas]
 | cons a l=>simp [commas]
def givenTk : List ByteArray → List (List ByteArray) → List (List ByteArray)
 | n :: ns,a :: l=>(n :: (⟨#[61]⟩ : ByteArray) :: a) :: givenTk ns l
 | _,_=>[]
def parTk (op least : Int) (t : List ByteArray) : List ByteArray:=if signI op < least then (⟨#[40]⟩ : ByteArray) :: (t ++ [(⟨#[41]⟩ : ByteArray)]) else t
def exTk1 (op int : Int) (name second : ByteArray) (pl : Pl) (l : List (Int × List ByteArray)) : List ByteArray :=
 if signI op < 7 then
  match l with
  | [(o,a)]=>signB op :: parTk o (signI op) a
  | (o,a) :: (o',a') :: _=>parTk o (if signI op = 3 then 4 else signI op) a ++ signB op :: parTk o' (signI op + 1) a'
  | []=>[]
 else if op = 1 then [itoaB int]
 else if op = 2 then [if int = 0 then (⟨#[102,97,108,115,101]⟩ : ByteArray) else (⟨#[116,114,117,101]⟩ : ByteArray)]
 else if op = 3 then [(⟨#[40]⟩ : ByteArray),(⟨#[41]⟩ : ByteArray)]
 else if op = 4 then pl.tk
 else if op = 5 then (⟨#[38]⟩ : ByteArray) :: pl.tk
 else if op = 6 then (⟨#[38]⟩ : ByteArray) :: (⟨#[109,117,116]⟩ : ByteArray) :: pl.tk
 else if op = 18 then name :: (⟨#[40]⟩ : ByteArray) :: (commas (l.map (·.2)) ++ [(⟨#[41]⟩ : ByteArray)])
 else if op = 19 then name :: (⟨#[123]⟩ : ByteArray) :: (commas (givenTk pl.path (l.map (·.2))) ++ [(⟨#[125]⟩ : ByteArray)])
 else if op = 20 then name :: (⟨#[46]⟩ : ByteArray) :: second :: (match l with | []=>[] | (_,a) :: _=>(⟨#[40]⟩ : ByteArray) :: (a ++ [(⟨#[41]⟩ : ByteArray)]))
 else wordL op :: (⟨#[40]⟩ : ByteArray) :: ((if sEq pl.name emS then [] else pl.tk ++ (if l.length = 0 then [] else [(⟨#[44]⟩ : ByteArray)])) ++ (commas (l.map (·.2)) ++ [(⟨#[41]⟩ : ByteArray)]))
mutual
def Ex.tk : Ex → List ByteArray
 | .mk op int name second pl args _=>exTk1 op int name second pl (Ex.tks args)
def Ex.tks : List Ex → List (Int × List ByteArray)
 | []=>[]
 | .mk op int name second pl args pos :: l=>(op,Ex.tk (.mk op int name second pl args pos)) :: Ex.tks l
end
theorem exTks (l : List Ex) : Ex.tks l = l.map fun e=>(e.op,e.tk):=by
 induction l with
 | nil=>rfl
 | cons e l ih=>cases e; simp [Ex.tks,ih]; rfl
theorem exTk_eq (e : Ex) : e.tk = exTk1 e.op e.int e.name e.second e.place (e.args.map fun x=>(x.op,x.tk)):=by
 cases e; simp only [Ex.tk,exTks]; rfl
end Go.Proofs.YthohopjnpgbljaaGreatDoor
namespace Go.Proofs.YthohopjnpgbljaaGreatDoor
open Go.RowKit
end Go.Proofs.YthohopjnpgbljaaGreatDoor
namespace Go.Proofs.YthohopjnpgbljaaGreatDoor
open Go.RowKit
attribute [local simp] List.replicate List.range List.range.loop resA resOne retA AV.cuts AV.cut AObj.cut trim wkR wkT wkL wkN wkNR wkNL wkM wkMR wkML virtL virtO virt_get markL markO markR_get rowA awpI_nil awpI_cons List.forall_mem_cons List.contains_cons List.contains_nil List.find? nextD_eq awpD_nil awpD_cons LCp LCl refL
theorem placeW (x : Pl) : WrC 56 [plV x] x.tk:=by
 refine WrC.intro fun S d i j p h hb=>?_
 refine ADet.okA Tryz.call56 1 1 rfl rfl fun hok=>?_
 have hlen : x.path.length ≤ maxLen:=okl hok
 unfold Pl.tk at hb ⊢
 simp only [tl_cons] at hb
 have hmid : ∀ q,tl (pathTk (x.path.take q)) ≤ tl (pathTk x.path):=fun q=>by
  conv=>rhs; rw [← List.take_append_drop q x.path,pathTk_append,tl_append]
  omega
 refine ADet.intro mixed Tryz.call56 Tryz.func56 rfl ?_
 simp [Tryz.ntmps56]
 refine awp_draw [] (by kernel_rfl) (by kernel_rfl) ?_
 simp
 refine ⟨_,_,(putV [x.name] (by rfl)).at h _ _ (by simp only [tl_cons,tl_nil]; omega),?_⟩
 simp [strs]
 refine awp_loop (fun q : Nat=>q ≤ x.path.length) (fun q=>([.ptr (d + 1) i 0] ++ (List.replicate 13 .any ++ [.p (.sl 1 (x.path.map fun s=>[pS s])),I x.path.length,I q,.any,.any,.any,.any,.any,.any,.any,.any,.any,.any]))) (fun q=>[.cells [Sg x.name,.p (.sl 1 (x.path.map fun s=>[pS s]))] 24,.dead] :: upd S d i j (putT (x.name :: pathTk (x.path.take q)) p)) (fun q=>x.path.length - q) 0 (Nat.zero_le _) ?_ ?_ ?_
 ·simp
 ·simp [pathTk]
 rintro q hq
 by_cases hlt : q < x.path.length
 ·have h1:=hmid (q + 1)
  have hT : pathTk (x.path.take (q + 1)) = pathTk (x.path.take q) ++ [(⟨#[46]⟩ : ByteArray),x.path[q]]:=by rw [take_snoc _ hlt,pathTk_append]; rfl
  rw [hT,tl_append] at h1
  simp only [tl_cons,tl_nil] at h1
  simp [hlt]
  refine ⟨_,_,(putV [(⟨#[46]⟩ : ByteArray),x.path[q]] (by rfl)).at h _ _ (by simp only [tl_cons,tl_nil]; omega),?_⟩
  simp [hlt]
  exact ⟨q + 1,hlt,by omega,wrap_succ hlt,by rw [hT]⟩
 ·have : x.path.take q = x.path:=List.take_of_length_le (by omega)
  simp [hlt,this]
theorem signC (op : Int) (S : ASt) : ADet Tryz.prog 28 [U op] S (.agg [Sg (signB op),I (signI op)]) S:=by
 refine ADet.intro mixed Tryz.call28 Tryz.func28 rfl ?_
 by_cases hop7 : op = 7
 ·simp [Tryz.ntmps28,hop7,signB,signI]
 by_cases hop8 : op = 8
 ·simp [Tryz.ntmps28,hop8,signB,signI]
 by_cases hop9 : op = 9
 ·simp [Tryz.ntmps28,hop9,signB,signI]
 by_cases hop10 : op = 10
 ·simp [Tryz.ntmps28,hop10,signB,signI]
 by_cases hop11 : op = 11
 ·simp [Tryz.ntmps28,hop11,signB,signI]
 by_cases hop12 : op = 12
 ·simp [Tryz.ntmps28,hop12,signB,signI]
 by_cases hop13 : op = 13
 ·simp [Tryz.ntmps28,hop13,signB,signI]
 by_cases hop14 : op = 14
 ·simp [Tryz.ntmps28,hop14,signB,signI]
 by_cases hop15 : op = 15
 ·simp [Tryz.ntmps28,hop15,signB,signI]
 by_cases hop16 : op = 16
 ·simp [Tryz.ntmps28,hop16,signB,signI]
 by_cases hop17 : op = 17
 ·simp [Tryz.ntmps28,hop17,signB,signI]
 simp [Tryz.ntmps28,hop7,hop8,hop9,hop10,hop11,hop12,hop13,hop14,hop15,hop16,hop17,signB,signI]
theorem wordC (op : Int) (S : ASt) : ADet Tryz.prog 90 [U op] S (Sg (wordL op)) S:=by
 refine ADet.intro mixed Tryz.call90 Tryz.func90 rfl ?_
 by_cases hop21 : op = 21
 ·simp [Tryz.ntmps90,hop21,wordL]
 by_cases hop22 : op = 22
 ·simp [Tryz.ntmps90,hop22,wordL]
 by_cases hop23 : op = 23
 ·simp [Tryz.ntmps90,hop23,wordL]
 by_cases hop24 : op = 24
 ·simp [Tryz.ntmps90,hop24,wordL]
 by_cases hop25 : op = 25
 ·simp [Tryz.ntmps90,hop25,wordL]
 by_cases hop26 : op = 26
 ·simp [Tryz.ntmps90,hop26,wordL]
 by_cases hop27 : op = 27
 ·simp [Tryz.ntmps90,hop27,wordL]
 by_cases hop28 : op = 28
 ·simp [Tryz.ntmps90,hop28,wordL]
 by_cases hop29 : op = 29
 ·simp [Tryz.ntmps90,hop29,wordL]
 by_cases hop30 : op = 30
 ·simp [Tryz.ntmps90,hop30,wordL]
 by_cases hop31 : op = 31
 ·simp [Tryz.ntmps90,hop31,wordL]
 by_cases hop32 : op = 32
 ·simp [Tryz.ntmps90,hop32,wordL]
 by_cases hop33 : op = 33
 ·simp [Tryz.ntmps90,hop33,wordL]
 by_cases hop34 : op = 34
 ·simp [Tryz.ntmps90,hop34,wordL]
 by_cases hop35 : op = 35
 ·simp [Tryz.ntmps90,hop35,wordL]
 simp [Tryz.ntmps90,hop21,hop22,hop23,hop24,hop25,hop26,hop27,hop28,hop29,hop30,hop31,hop32,hop33,hop34,hop35,wordL]
def ExW (e : Ex) : Prop:=∀ least : Int,WrC 16 [exV e,I least] (parTk e.op least e.tk)
theorem signI_nn (op : Int) : 0 ≤ signI op:=by
 unfold signI
 repeat' split
 all_goals omega
theorem parTk_0 (op : Int) (t : List ByteArray) : parTk op 0 t = t:=by
 unfold parTk
 rw [if_neg (by have:=signI_nn op; omega)]
theorem anyW (e : Ex) (he : ExW e) : WrC 58 [exV e] e.tk:=by
 refine WrC.intro fun S d i j p h hb=>?_
 refine ADet.intro mixed Tryz.call58 Tryz.func58 rfl ?_
 have h0:=he 0
 rw [parTk_0] at h0
 simp [Tryz.ntmps58]
 refine ⟨_,_,h0.at h _ _ (by simp only [tl_nil]; omega),?_⟩
 simp
end Go.Proofs.YthohopjnpgbljaaGreatDoor
namespace Go.Proofs.YthohopjnpgbljaaGreatDoor
open Go.RowKit
attribute [local simp] List.replicate List.range List.range.loop resA resOne retA AV.cuts AV.cut AObj.cut trim wkR wkT wkL wkN wkNR wkNL wkM wkMR wkML
theorem tl_commas_take (ts : List (List ByteArray)) (q : Nat) : tl (commas (ts.take q)) ≤ tl (commas ts):=by
 obtain ⟨r,hr⟩:=commas_append (ts.take q) (ts.drop q)
 rw [List.take_append_drop] at hr
 rw [hr,tl_append]; omega
theorem listed_Expr (l : List Ex) (ts : List (List ByteArray)) (hl : ts.length = l.length) (K : Nat) (fs caps : List AV) (d i j : Nat) (G : Nat → ASt) (p : Pg) (hG : ∀ q,q ≤ l.length → ∃ p0,At (G q) d i j p0)
  (hc : ∀ q (hq : q < l.length) (L : List AObj) (pg : Pg),pg.bytes.size + tl (ts[q]'(by omega)) ≤ 4294967296 → ADet Tryz.prog K (AV.ups 1 fs ++ (exV l[q] :: AV.ups 1 caps)) (L :: upd (G q) d i j pg) .un (L :: upd (G (q + 1)) d i j (putT (ts[q]'(by omega)) pg)))
  (hb : p.bytes.size + tl (commas ts) ≤ 4294967296) : ADet Tryz.prog 57 [.ptr d i 0,.p (.sl 8 (l.map Ex.enc)),.fn (.func K) fs caps] (upd (G 0) d i j p) .un (upd (G l.length) d i j (putT (commas ts) p)):=by
 skip
 refine ADet.okP Tryz.call57 1 rfl fun hok=>?_
 have hlen:=okl hok
 refine ADet.intro mixed Tryz.call57 Tryz.func57 rfl ?_
 simp [Tryz.ntmps57]
 refine awp_loop (fun q : Nat=>q ≤ l.length) (fun q=>([.ptr (d + 1) i 0,.any,.fn (.func K) (AV.ups 1 fs) (AV.ups 1 caps),.any,.any,.any,.any,.any,.p (.sl 8 (l.map Ex.enc)),I l.length,I q] ++ List.replicate 15 .any)) (fun q=>[] :: upd (G q) d i j (putT (commas (ts.take q)) p)) (fun q=>l.length - q) 0 (Nat.zero_le _) ?_ ?_ ?_
 ·simp
 ·simp [commas,putT_nil]
 rintro q hq
 obtain ⟨p0,h⟩:=hG q hq
 by_cases hlt : q < l.length
 ·have hlt2 : q < ts.length:=by omega
  have hx2:=hc q hlt
  have hT : commas (ts.take (q + 1)) = commas (ts.take q) ++ ((if q = 0 then [] else [(⟨#[44]⟩ : ByteArray)]) ++ ts[q]):=by
   rw [List.take_succ_eq_append_getElem hlt2,commas_snoc]
   have : (ts.take q).length = q:=by simp; omega
   rw [this]
  have hsz:=tl_commas_take ts (q + 1)
  have hpt:=putT_tl (commas (ts.take q)) p
  rw [hT] at hsz
  rw [tl_append,tl_append] at hsz
  generalize hx : l[q] = x at *
  generalize ht : ts[q] = t at *
  generalize hcq : commas (ts.take q) = cq at *
  rcases Nat.eq_zero_or_pos q with h0 | h0
  ·simp only [h0,if_true,tl_nil] at hsz
   have h00 : ¬ 0 < q:=by omega
   simp [hlt,hx,exEnc,h00]
   refine ⟨_,_,hx2 _ (putT cq p) (by omega),?_⟩
   simp
   exact ⟨q + 1,hlt,by omega,wrap_succ hlt,by rw [hT,if_pos h0,List.nil_append,putT_append]⟩
  ·have hne : ¬ q = 0:=by omega
   simp only [hne,if_false,tl_cons,tl_nil] at hsz
   have h00 : 0 < q:=h0
   simp [hlt,hx,exEnc,h00]
   refine ⟨_,_,(putV [(⟨#[44]⟩ : ByteArray)] (by rfl)).at1 h _ _ (by simp only [tl_cons,tl_nil]; omega),?_⟩
   simp
   refine ⟨_,_,hx2 _ (putT [(⟨#[44]⟩ : ByteArray)] (putT cq p)) (by have:=putT_tl [(⟨#[44]⟩ : ByteArray)] (putT cq p); simp only [tl_cons,tl_nil] at this; omega),?_⟩
   simp
   exact ⟨q + 1,hlt,by omega,wrap_succ hlt,by rw [hT,if_neg hne,putT_append,putT_append]⟩
 ·have : ts.take q = ts:=List.take_of_length_le (by omega)
  obtain rfl : q = l.length:=by omega
  simp [this]
theorem listed_string (l : List ByteArray) (ts : List (List ByteArray)) (hl : ts.length = l.length) (K : Nat) (fs caps : List AV) (d i j : Nat) (G : Nat → ASt) (p : Pg) (hG : ∀ q,q ≤ l.length → ∃ p0,At (G q) d i j p0)
  (hc : ∀ q (hq : q < l.length) (L : List AObj) (pg : Pg),pg.bytes.size + tl (ts[q]'(by omega)) ≤ 4294967296 → ADet Tryz.prog K (AV.ups 1 fs ++ (Sg l[q] :: AV.ups 1 caps)) (L :: upd (G q) d i j pg) .un (L :: upd (G (q + 1)) d i j (putT (ts[q]'(by omega)) pg)))
  (hb : p.bytes.size + tl (commas ts) ≤ 4294967296) : ADet Tryz.prog 88 [.ptr d i 0,.p (strs l),.fn (.func K) fs caps] (upd (G 0) d i j p) .un (upd (G l.length) d i j (putT (commas ts) p)):=by
 unfold strs
 refine ADet.okP Tryz.call88 1 rfl fun hok=>?_
 have hlen:=okl hok
 refine ADet.intro mixed Tryz.call88 Tryz.func88 rfl ?_
 simp [Tryz.ntmps88]
 refine awp_loop (fun q : Nat=>q ≤ l.length) (fun q=>([.ptr (d + 1) i 0,.any,.fn (.func K) (AV.ups 1 fs) (AV.ups 1 caps),.any,.any,.any,.any,.any,.p (.sl 1 (l.map fun s=>[pS s])),I l.length,I q] ++ List.replicate 15 .any)) (fun q=>[] :: upd (G q) d i j (putT (commas (ts.take q)) p)) (fun q=>l.length - q) 0 (Nat.zero_le _) ?_ ?_ ?_
 ·simp
 ·simp [commas,putT_nil]
 rintro q hq
 obtain ⟨p0,h⟩:=hG q hq
 by_cases hlt : q < l.length
 ·have hlt2 : q < ts.length:=by omega
  have hx2:=hc q hlt
  have hT : commas (ts.take (q + 1)) = commas (ts.take q) ++ ((if q = 0 then [] else [(⟨#[44]⟩ : ByteArray)]) ++ ts[q]):=by
   rw [List.take_succ_eq_append_getElem hlt2,commas_snoc]
   have : (ts.take q).length = q:=by simp; omega
   rw [this]
  have hsz:=tl_commas_take ts (q + 1)
  have hpt:=putT_tl (commas (ts.take q)) p
  rw [hT] at hsz
  rw [tl_append,tl_append] at hsz
  generalize hx : l[q] = x at *
  generalize ht : ts[q] = t at *
  generalize hcq : commas (ts.take q) = cq at *
  rcases Nat.eq_zero_or_pos q with h0 | h0
  ·simp only [h0,if_true,tl_nil] at hsz
   have h00 : ¬ 0 < q:=by omega
   simp [hlt,hx,pS,h00]
   refine ⟨_,_,hx2 _ (putT cq p) (by omega),?_⟩
   simp
   exact ⟨q + 1,hlt,by omega,wrap_succ hlt,by rw [hT,if_pos h0,List.nil_append,putT_append]⟩
  ·have hne : ¬ q = 0:=by omega
   simp only [hne,if_false,tl_cons,tl_nil] at hsz
   have h00 : 0 < q:=h0
   simp [hlt,hx,pS,h00]
   refine ⟨_,_,(putV [(⟨#[44]⟩ : ByteArray)] (by rfl)).at1 h _ _ (by simp only [tl_cons,tl_nil]; omega),?_⟩
   simp
   refine ⟨_,_,hx2 _ (putT [(⟨#[44]⟩ : ByteArray)] (putT cq p)) (by have:=putT_tl [(⟨#[44]⟩ : ByteArray)] (putT cq p); simp only [tl_cons,tl_nil] at this; omega),?_⟩
   simp
   exact ⟨q + 1,hlt,by omega,wrap_succ hlt,by rw [hT,if_neg hne,putT_append,putT_append]⟩
 ·have : ts.take q = ts:=List.take_of_length_le (by omega)
  obtain rfl : q = l.length:=by omega
  simp [this]
end Go.Proofs.YthohopjnpgbljaaGreatDoor
namespace Go.Proofs.YthohopjnpgbljaaGreatDoor
open Go.RowKit
attribute [local simp] List.replicate List.range List.range.loop resA resOne retA virtL virtO virt_get markL markO markR_get rowA awpI_nil awpI_cons List.forall_mem_cons List.contains_cons List.contains_nil List.find? nextD_eq awpD_nil awpD_cons LCp LCl refL
theorem argsW (l : List Ex) (hl : ∀ e ∈ l,ExW e) {S : ASt} {d i j : Nat} {p0 : Pg} (h : At S d i j p0) (p : Pg) (L : List AObj) (hb : p.bytes.size + tl (commas (l.map Ex.tk)) ≤ 4294967296) :
  ADet Tryz.prog 57 [.ptr (d + 1) i 0,.p (.sl 8 (l.map Ex.enc)),.fn (.func 58) [.ptr (d + 1) i 0] []] (L :: upd S d i j p) .un (L :: upd S d i j (putT (commas (l.map Ex.tk)) p)):=by
 have:=listed_Expr l (l.map Ex.tk) (by simp) 58 [.ptr (d + 1) i 0] [] (d + 1) i j (fun _=>L :: S) p (fun q hq=>⟨p0,h.push L⟩) (fun q hq L' pg hpg=>by
  simp only [AV.ups,AV.up,List.cons_append,List.nil_append,List.getElem_map] at hpg ⊢
  rw [upd_suc,upd_suc]
  exact (anyW _ (hl _ (List.getElem_mem hq))).at2 h pg L' L hpg) hb
 rw [upd_suc,upd_suc] at this
 exact this
theorem givenTk_len : ∀ (ns : List ByteArray) (ts : List (List ByteArray)),ns.length = ts.length → (givenTk ns ts).length = ns.length
 | [],ts,h=>by simp [givenTk]
 | n :: ns,[],h=>by simp at h
 | n :: ns,a :: ts,h=>by simp [givenTk,givenTk_len ns ts (by simpa using h)]
theorem givenTk_at : ∀ (ns : List ByteArray) (ts : List (List ByteArray)) (h : ns.length = ts.length) (q : Nat) (hq : q < ns.length) (hg : q < (givenTk ns ts).length),(givenTk ns ts)[q] = ns[q] :: (⟨#[61]⟩ : ByteArray) :: ts[q]'(by omega)
 | n :: ns,a :: ts,h,0,hq,hg=>rfl
 | n :: ns,a :: ts,h,q + 1,hq,hg=>by
  simp only [givenTk,List.getElem_cons_succ]
  exact givenTk_at ns ts (by simpa using h) q (by simpa using hq) (by simpa [givenTk] using hg)
theorem given1W (name : ByteArray) (l : List Ex) (q : Nat) (hq : q < l.length) (hlm : l.length ≤ 20000) (he : ExW l[q]) {S : ASt} {d i j : Nat} {p0 : Pg} (h : At S d i j p0) (p : Pg) (L : List AObj) (hb : p.bytes.size + tl (name :: (⟨#[61]⟩ : ByteArray) :: l[q].tk) ≤ 4294967296) :
  ADet Tryz.prog 89 [Sg name,.ptr 1 0 0,.ptr 1 1 0,.ptr 1 2 0] (L :: [.cells [.ptr (d + 1) i 0] 55,.cells [.p (.sl 8 (l.map Ex.enc))] 25,.cells [I q] 3] :: upd S d i j p) .un
   (L :: [.cells [.ptr (d + 1) i 0] 55,.cells [.p (.sl 8 (l.map Ex.enc))] 25,.cells [I (q + 1)] 3] :: upd S d i j (putT (name :: (⟨#[61]⟩ : ByteArray) :: l[q].tk) p)):=by
 simp only [tl_cons] at hb
 have w1 : IntKind.i64.wrap ((q : Int) + 1) = (q : Int) + 1:=IntWalk.i64_in _ (by omega)
 have h0:=he 0
 rw [parTk_0] at h0
 generalize hx : l[q] = x at *
 refine ADet.intro mixed Tryz.call89 Tryz.func89 rfl ?_
 simp [Tryz.ntmps89]
 refine ⟨_,_,(putV [name,(⟨#[61]⟩ : ByteArray)] (by rfl)).at3 h p _ _ _ (by simp only [tl_cons,tl_nil]; omega),?_⟩
 have hp2:=putT_tl [name,(⟨#[61]⟩ : ByteArray)] p
 simp only [tl_cons,tl_nil] at hp2
 simp
 refine awp_draw [] (by kernel_rfl) (by kernel_rfl) ?_
 simp [hq,hx,exEnc]
 refine ⟨_,_,h0.at3 h _ _ _ _ (by omega),?_⟩
 simp [w1,putT_cons,putT_nil]
theorem givenW (ns : List ByteArray) (l : List Ex) (hn : ns.length = l.length) (hlm : l.length ≤ 20000) (hl : ∀ e ∈ l,ExW e) : WrC 59 [.p (strs ns),.p (.sl 8 (l.map Ex.enc))] (commas (givenTk ns (l.map Ex.tk))):=by
 refine fun S d i j p h hb=>?_
 refine ADet.intro mixed Tryz.call59 Tryz.func59 rfl ?_
 have hgl:=givenTk_len ns (l.map Ex.tk) (by simpa using hn)
 have key:=listed_string ns (givenTk ns (l.map Ex.tk)) hgl 89 [] [.ptr 0 0 0,.ptr 0 1 0,.ptr 0 2 0] (d + 1) i j (fun q=>[.cells [.ptr (d + 1) i 0] 55,.cells [.p (.sl 8 (l.map Ex.enc))] 25,.cells [I q] 3] :: S) p (fun q hq=>⟨p,h.push _⟩) (fun q hq L pg hpg=>by
  have hq2 : q < l.length:=by omega
  rw [givenTk_at ns _ (by simpa using hn) q hq] at hpg ⊢
  simp only [AV.ups,AV.up,List.nil_append,List.getElem_map] at hpg ⊢
  rw [upd_suc,upd_suc]
  exact given1W ns[q] l q hq2 hlm (hl _ (List.getElem_mem hq2)) h pg L hpg) hb
 rw [upd_suc,upd_suc,h.same] at key
 simp [Tryz.ntmps59]
 refine ⟨_,_,key,?_⟩
 simp
theorem ex_split {e : Ex} {d : Int} (h : e.whole d = true) : (1 ≤ e.op ∧ e.op ≤ 36) ∧ labB e.op e.int e.name e.second = true ∧ (shL e.op ≤ e.args.length ∧ (e.args.length : Int) ≤ shM e.op) ∧ placedB e.op e.place e.args.length (shP e.op) = true ∧ ∀ x ∈ e.args,x.whole (d - 1) = true:=by
 rw [exWhole_eq] at h
 simp only [Bool.and_eq_true,decide_eq_true_eq,exHead,shO,allUp] at h
 obtain ⟨_,⟨⟨h1,h2⟩,h3,h4,h5⟩,h6,h7⟩:=h
 refine ⟨⟨h1,h2⟩,h3,⟨h4,h6⟩,h5,fun x hx=>?_⟩
 rw [List.take_of_length_le (by omega),List.all_eq_true] at h7
 have:=h7 x hx
 simp only [Bool.and_eq_true] at this
 exact this.2
theorem sign_7 {op : Int} : signI op < 7 ↔ 7 ≤ op ∧ op ≤ 17:=by
 unfold signI
 constructor
 ·intro h
  repeat' split at h
  all_goals omega
 ·intro h
  repeat' split
  all_goals omega
theorem sign_le (op : Int) : signI op ≤ 7:=by
 unfold signI
 repeat' split
 all_goals omega
theorem calledW (e : Ex) (ho : 21 ≤ e.op ∧ e.op ≤ 36) (hl : ∀ x ∈ e.args,ExW x) : WrC 60 [exV e] e.tk:=by
 have h7 : ¬ signI e.op < 7:=by rw [sign_7]; omega
 have htk : e.tk = wordL e.op :: (⟨#[40]⟩ : ByteArray) :: ((if sEq e.place.name emS then [] else e.place.tk ++ (if e.args.length = 0 then [] else [(⟨#[44]⟩ : ByteArray)])) ++ (commas (e.args.map Ex.tk) ++ [(⟨#[41]⟩ : ByteArray)])):=by
  rw [exTk_eq]
  unfold exTk1
  rw [if_neg h7,if_neg (by omega),if_neg (by omega),if_neg (by omega),if_neg (by omega),if_neg (by omega),if_neg (by omega),if_neg (by omega),if_neg (by omega),if_neg (by omega)]
  simp [Function.comp_def]
 rw [htk]
 refine WrC.intro fun S d i j p h hb=>?_
 simp only [tl_cons,tl_append,tl_nil] at hb
 refine ADet.okA Tryz.call60 1 6 rfl rfl fun hok=>?_
 have hlen:=okl hok
 refine ADet.intro mixed Tryz.call60 Tryz.func60 rfl ?_
 simp [Tryz.ntmps60]
 refine awp_draw [] (by kernel_rfl) (by kernel_rfl) ?_
 simp
 refine ⟨_,_,wordC _ _,?_⟩
 simp
 refine ⟨_,_,(putV [wordL e.op,(⟨#[40]⟩ : ByteArray)] (by rfl)).at h _ _ (by simp only [tl_cons,tl_nil]; omega),?_⟩
 cases hnm : sEq e.place.name emS with
 | true =>
  simp only [hnm,if_true,tl_nil] at hb
  simp [hnm]
  have h1:=putT_tl ([] ++ [wordL e.op,(⟨#[40]⟩ : ByteArray)]) p
  simp only [List.nil_append,tl_cons,tl_nil] at h1
  refine ⟨_,_,argsW e.args hl h _ _ (by omega),?_⟩
  simp
  rw [← putT_append]
  refine ⟨_,_,(putV [(⟨#[41]⟩ : ByteArray)] (by rfl)).at h _ _ (by simp only [List.nil_append,tl_append,tl_cons,tl_nil]; omega),?_⟩
  simp [hnm]
 | false =>
  simp only [hnm,Bool.false_eq_true,if_false,tl_append] at hb
  simp [hnm]
  refine ⟨_,_,(placeW e.place).at h _ _ (by simp only [tl_append,tl_cons,tl_nil]; omega),?_⟩
  by_cases hl0 : e.args = []
  ·simp [hl0]
   have h1:=putT_tl ([] ++ [wordL e.op,(⟨#[40]⟩ : ByteArray)] ++ e.place.tk) p
   simp only [List.nil_append,tl_cons,tl_nil,tl_append] at h1
   have ha:=fun L : List AObj=>argsW [] (fun x hx=>by cases hx) h (putT ([] ++ [wordL e.op,(⟨#[40]⟩ : ByteArray)] ++ e.place.tk) p) L (by simp [commas,tl_nil]; simp at h1; omega)
   simp at ha
   refine ⟨_,_,ha _,?_⟩
   simp [commas,putT_nil]
   refine ⟨_,_,(putV [(⟨#[41]⟩ : ByteArray)] (by rfl)).at h _ _ (by simp only [tl_append,tl_cons,tl_nil]; simp [hl0,commas,tl_nil] at hb; omega),?_⟩
   simp [hnm,hl0,commas]
  ·have hl1 : 0 < e.args.length:=List.length_pos_iff.2 hl0
   have hl2 : ¬ e.args.length = 0:=by omega
   simp only [hl2,if_false,tl_cons,tl_nil] at hb
   simp [hl0,hl1]
   refine ⟨_,_,(putV [(⟨#[44]⟩ : ByteArray)] (by rfl)).at h _ _ (by simp only [tl_append,tl_cons,tl_nil]; omega),?_⟩
   simp [hl0,hl1]
   have h1:=putT_tl ([] ++ [wordL e.op,(⟨#[40]⟩ : ByteArray)] ++ e.place.tk ++ [(⟨#[44]⟩ : ByteArray)]) p
   simp only [List.nil_append,tl_cons,tl_nil,tl_append] at h1
   refine ⟨_,_,argsW e.args hl h _ _ (by simp at h1 ⊢; omega),?_⟩
   simp
   rw [← putT_append]
   refine ⟨_,_,(putV [(⟨#[41]⟩ : ByteArray)] (by rfl)).at h _ _ (by simp [tl_append,tl_cons,tl_nil]; omega),?_⟩
   simp [hnm,hl0]
theorem exTk_plain {e : Ex} (h7 : ¬ signI e.op < 7) : e.tk = if e.op = 1 then [itoaB e.int] else if e.op = 2 then [if e.int = 0 then (⟨#[102,97,108,115,101]⟩ : ByteArray) else (⟨#[116,114,117,101]⟩ : ByteArray)] else if e.op = 3 then [(⟨#[40]⟩ : ByteArray),(⟨#[41]⟩ : ByteArray)] else if e.op = 4 then e.place.tk else if e.op = 5 then (⟨#[38]⟩ : ByteArray) :: e.place.tk else if e.op = 6 then (⟨#[38]⟩ : ByteArray) :: (⟨#[109,117,116]⟩ : ByteArray) :: e.place.tk
  else if e.op = 18 then e.name :: (⟨#[40]⟩ : ByteArray) :: (commas (e.args.map Ex.tk) ++ [(⟨#[41]⟩ : ByteArray)]) else if e.op = 19 then e.name :: (⟨#[123]⟩ : ByteArray) :: (commas (givenTk e.place.path (e.args.map Ex.tk)) ++ [(⟨#[125]⟩ : ByteArray)])
  else if e.op = 20 then e.name :: (⟨#[46]⟩ : ByteArray) :: e.second :: (match e.args with | []=>[] | x :: _=>(⟨#[40]⟩ : ByteArray) :: (x.tk ++ [(⟨#[41]⟩ : ByteArray)])) else e.tk:=by
 have hm : (e.args.map fun x=>(x.op,x.tk)).map (·.2) = e.args.map Ex.tk:=by simp [Function.comp_def]
 have e0:=exTk_eq e
 unfold exTk1 at e0
 rw [if_neg h7,hm] at e0
 refine e0.trans ?_
 by_cases c1 : e.op = 1
 ·rw [if_pos c1,if_pos c1]
 rw [if_neg c1,if_neg c1]
 by_cases c2 : e.op = 2
 ·rw [if_pos c2,if_pos c2]
 rw [if_neg c2,if_neg c2]
 by_cases c3 : e.op = 3
 ·rw [if_pos c3,if_pos c3]
 rw [if_neg c3,if_neg c3]
 by_cases c4 : e.op = 4
 ·rw [if_pos c4,if_pos c4]
 rw [if_neg c4,if_neg c4]
 by_cases c5 : e.op = 5
 ·rw [if_pos c5,if_pos c5]
 rw [if_neg c5,if_neg c5]
 by_cases c6 : e.op = 6
 ·rw [if_pos c6,if_pos c6]
 rw [if_neg c6,if_neg c6]
 by_cases c18 : e.op = 18
 ·rw [if_pos c18,if_pos c18]
 rw [if_neg c18,if_neg c18]
 by_cases c19 : e.op = 19
 ·rw [if_pos c19,if_pos c19]
 rw [if_neg c19,if_neg c19]
 by_cases c20 : e.op = 20
 ·rw [if_pos c20,if_pos c20]
  cases e.args <;> rfl
 rw [if_neg c20,if_neg c20,e0]
 rw [if_neg c1,if_neg c2,if_neg c3,if_neg c4,if_neg c5,if_neg c6,if_neg c18,if_neg c19,if_neg c20]
theorem plainW (e : Ex) (d0 : Int) (hw : e.whole d0 = true) (hr : ExRg e) (h7 : ¬ signI e.op < 7) (hl : ∀ x ∈ e.args,ExW x) : WrC 30 [exV e] e.tk:=by
 obtain ⟨⟨ho1,ho2⟩,hlab,⟨hsl,hsm⟩,hpl,_⟩:=ex_split hw
 obtain ⟨⟨hi1,hi2⟩,_⟩:=(exRg_iff e).1 hr
 have hcal:=calledW e
 have hn7 : ¬ (7 ≤ e.op ∧ e.op ≤ 17):=fun h=>h7 (sign_7.2 h)
 refine WrC.intro fun S d i j p h hb=>?_
 refine ADet.okA Tryz.call30 1 6 rfl rfl fun hok=>?_
 have hlen:=okl hok
 have htk:=exTk_plain h7
 refine ADet.intro mixed Tryz.call30 Tryz.func30 rfl ?_
 by_cases hop1 : e.op = 1
 ·simp only [hop1,if_true] at htk
  rw [htk] at hb ⊢
  simp only [tl_cons,tl_nil] at hb
  simp [Tryz.ntmps30,hop1]
  refine awp_draw [] (by kernel_rfl) (by kernel_rfl) ?_
  simp
  refine ⟨_,_,formatInt e.int hi1 hi2 _,?_⟩
  simp
  refine ⟨_,_,(putV [itoaB e.int] (by rfl)).at h _ _ (by simp only [tl_cons,tl_nil]; omega),?_⟩
  simp [hop1]
 by_cases hop2 : e.op = 2
 ·simp [hop2] at htk
  rw [htk] at hb ⊢
  simp [labB,hop2] at hlab
  rcases hlab.2 with hi | hi
  ·simp only [hi,if_true,tl_cons,tl_nil] at hb
   simp [Tryz.ntmps30,hop2,hi]
   refine awp_draw [(5,3)] (by kernel_rfl) (by kernel_rfl) ?_
   simp
   refine ⟨_,_,(putV [(⟨#[102,97,108,115,101]⟩ : ByteArray)] (by rfl)).at h _ _ (by simp only [tl_cons,tl_nil]; omega),?_⟩
   simp [hop2]
  ·simp only [hi,Int.one_ne_zero,if_false,tl_cons,tl_nil] at hb
   simp [Tryz.ntmps30,hop2,hi]
   refine awp_draw [(5,3)] (by kernel_rfl) (by kernel_rfl) ?_
   simp
   refine ⟨_,_,(putV [(⟨#[116,114,117,101]⟩ : ByteArray)] (by rfl)).at h _ _ (by simp only [tl_cons,tl_nil]; omega),?_⟩
   simp [hop2]
 by_cases hop3 : e.op = 3
 ·simp [hop3] at htk
  rw [htk] at hb ⊢
  simp only [tl_cons,tl_nil] at hb
  simp [Tryz.ntmps30,hop3]
  refine ⟨_,_,(putV [(⟨#[40]⟩ : ByteArray),(⟨#[41]⟩ : ByteArray)] (by rfl)).at h _ _ (by simp only [tl_cons,tl_nil]; omega),?_⟩
  simp [hop3]
 by_cases hop4 : e.op = 4
 ·simp [hop4] at htk
  rw [htk] at hb ⊢
  simp [Tryz.ntmps30,hop4]
  refine ⟨_,_,(placeW e.place).at h _ _ (by simp only [tl_nil]; omega),?_⟩
  simp [hop4]
 by_cases hop5 : e.op = 5
 ·simp [hop5] at htk
  rw [htk] at hb ⊢
  simp only [tl_cons,tl_nil] at hb
  simp [Tryz.ntmps30,hop5]
  refine ⟨_,_,(putV [(⟨#[38]⟩ : ByteArray)] (by rfl)).at h _ _ (by simp only [tl_cons,tl_nil]; omega),?_⟩
  simp [hop5]
  refine ⟨_,_,(placeW e.place).at h _ _ (by simp only [tl_append,tl_cons,tl_nil]; omega),?_⟩
  simp [hop5]
 by_cases hop6 : e.op = 6
 ·simp [hop6] at htk
  rw [htk] at hb ⊢
  simp only [tl_cons,tl_nil] at hb
  simp [Tryz.ntmps30,hop6]
  refine ⟨_,_,(putV [(⟨#[38]⟩ : ByteArray),(⟨#[109,117,116]⟩ : ByteArray)] (by rfl)).at h _ _ (by simp only [tl_cons,tl_nil]; omega),?_⟩
  simp [hop6]
  refine ⟨_,_,(placeW e.place).at h _ _ (by simp only [tl_append,tl_cons,tl_nil]; omega),?_⟩
  simp [hop6]
 by_cases hop18 : e.op = 18
 ·simp [hop18] at htk
  rw [htk] at hb ⊢
  simp only [tl_cons,tl_nil,tl_append] at hb
  simp [Tryz.ntmps30,hop18]
  refine awp_draw [] (by kernel_rfl) (by kernel_rfl) ?_
  simp
  refine ⟨_,_,(putV [e.name,(⟨#[40]⟩ : ByteArray)] (by rfl)).at h _ _ (by simp only [tl_cons,tl_nil]; omega),?_⟩
  simp
  have h1:=putT_tl ([] ++ [e.name,(⟨#[40]⟩ : ByteArray)]) p
  simp only [List.nil_append,tl_cons,tl_nil,tl_append] at h1
  refine ⟨_,_,argsW e.args hl h _ _ (by simp at h1 ⊢; omega),?_⟩
  simp
  rw [← putT_append]
  refine ⟨_,_,(putV [(⟨#[41]⟩ : ByteArray)] (by rfl)).at h _ _ (by simp [tl_append,tl_cons,tl_nil]; omega),?_⟩
  simp [hop18]
 by_cases hop19 : e.op = 19
 ·simp [hop19] at htk
  rw [htk] at hb ⊢
  simp only [tl_cons,tl_nil,tl_append] at hb
  simp [placedB,hop19,shP] at hpl
  have h6 : (e.args.length : Int) ≤ 6:=by simpa [shM,hop19] using hsm
  simp [Tryz.ntmps30,hop19]
  refine awp_draw [] (by kernel_rfl) (by kernel_rfl) ?_
  simp
  refine ⟨_,_,(putV [e.name,(⟨#[123]⟩ : ByteArray)] (by rfl)).at h _ _ (by simp only [tl_cons,tl_nil]; omega),?_⟩
  simp
  refine ⟨_,_,(givenW e.place.path e.args hpl.2.1 (by omega) hl).at h _ _ (by simp only [tl_append,tl_cons,tl_nil]; omega),?_⟩
  simp
  refine ⟨_,_,(putV [(⟨#[125]⟩ : ByteArray)] (by rfl)).at h _ _ (by simp [tl_append,tl_cons,tl_nil]; omega),?_⟩
  simp [hop19]
 by_cases hop20 : e.op = 20
 ·simp [hop20] at htk
  rw [htk] at hb ⊢
  have h1 : (e.args.length : Int) ≤ 1:=by simpa [shM,hop20] using hsm
  rcases hargs : e.args with _ | ⟨x,l⟩
  ·simp only [hargs,tl_cons,tl_nil] at hb
   simp [Tryz.ntmps30,hop20,hargs]
   refine awp_draw [] (by kernel_rfl) (by kernel_rfl) ?_
   simp
   refine ⟨_,_,(putV [e.name,(⟨#[46]⟩ : ByteArray),e.second] (by rfl)).at h _ _ (by simp only [tl_cons,tl_nil]; omega),?_⟩
   simp [hop20,hargs]
  ·have hl0 : l = []:=List.eq_nil_of_length_eq_zero (by rw [hargs] at h1; simp at h1; omega)
   subst hl0
   have hx:=anyW x (hl x (by rw [hargs]; simp))
   simp only [hargs,tl_cons,tl_nil,tl_append] at hb
   simp [Tryz.ntmps30,hop20,hargs]
   refine awp_draw [] (by kernel_rfl) (by kernel_rfl) ?_
   simp
   refine ⟨_,_,(putV [e.name,(⟨#[46]⟩ : ByteArray),e.second] (by rfl)).at h _ _ (by simp only [tl_cons,tl_nil]; omega),?_⟩
   simp [hop20,hargs]
   refine ⟨_,_,(putV [(⟨#[40]⟩ : ByteArray)] (by rfl)).at h _ _ (by simp [tl_append,tl_cons,tl_nil]; omega),?_⟩
   simp [hop20,hargs,exEnc]
   refine ⟨_,_,hx.at h _ _ (by simp [tl_append,tl_cons,tl_nil]; omega),?_⟩
   simp [hop20,hargs]
   refine ⟨_,_,(putV [(⟨#[41]⟩ : ByteArray)] (by rfl)).at h _ _ (by simp [tl_append,tl_cons,tl_nil]; omega),?_⟩
   simp [hop20,hargs]
 have hc:=hcal (by omega) hl
 simp [Tryz.ntmps30,hop1,hop2,hop3,hop4,hop5,hop6,hop18,hop19,hop20]
 refine ⟨_,_,hc.at h _ _ (by simp only [tl_nil]; omega),?_⟩
 simp
theorem exTk_one {e x : Ex} (h7 : signI e.op < 7) (ha : e.args = [x]) : e.tk = signB e.op :: parTk x.op (signI e.op) x.tk:=by
 rw [exTk_eq]; unfold exTk1; rw [if_pos h7,ha]; rfl
theorem exTk_two {e x y : Ex} (h7 : signI e.op < 7) (ha : e.args = [x,y]) : e.tk = parTk x.op (if signI e.op = 3 then 4 else signI e.op) x.tk ++ signB e.op :: parTk y.op (signI e.op + 1) y.tk:=by
 rw [exTk_eq]; unfold exTk1; rw [if_pos h7,ha]; rfl
theorem exprBody (e : Ex) (d0 : Int) (hw : e.whole d0 = true) (hr : ExRg e) (hl : ∀ x ∈ e.args,ExW x) (least : Int) (hle : ¬ signI e.op < least) : WrC 16 [exV e,I least] e.tk:=by
 obtain ⟨⟨ho1,ho2⟩,hlab,⟨hsl,hsm⟩,hpl,_⟩:=ex_split hw
 have hpw:=plainW e d0 hw hr
 have hs0:=signI_nn e.op
 have hs7:=sign_le e.op
 have w1 : IntKind.i64.wrap (signI e.op + 1) = signI e.op + 1:=IntWalk.i64_in _ (by omega)
 refine WrC.intro fun S d i j p h hb=>?_
 refine ADet.intro mixed Tryz.call16 Tryz.func16 rfl ?_
 by_cases h7 : signI e.op < 7
 ·obtain ⟨g1,g2⟩:=sign_7.1 h7
  by_cases hu : e.op = 7 ∨ e.op = 8
  ·obtain ⟨x,ha⟩ : ∃ x,e.args = [x]:=by
    have h1 : shL e.op = 1:=by rcases hu with h | h <;> simp [shL,h]
    have h2 : shM e.op = 1:=by rcases hu with h | h <;> simp [shM,h]
    exact List.length_eq_one_iff.1 (by omega)
   have hx:=hl x (by rw [ha]; simp)
   rw [exTk_one h7 ha] at hb ⊢
   simp only [tl_cons] at hb
   simp [Tryz.ntmps16,ha]
   refine ⟨_,_,signC e.op _,?_⟩
   simp [hle,h7,ha]
   refine awp_draw [] (by kernel_rfl) (by kernel_rfl) ?_
   simp
   refine ⟨_,_,(putV [signB e.op] (by rfl)).at h _ _ (by simp only [tl_cons,tl_nil]; omega),?_⟩
   simp [ha]
   refine awp_draw [] (by kernel_rfl) (by kernel_rfl) ?_
   simp [ha,exEnc]
   refine ⟨_,_,(hx (signI e.op)).at h _ _ (by simp only [tl_append,tl_cons,tl_nil]; omega),?_⟩
   simp [ha]
  ·obtain ⟨x,y,ha⟩ : ∃ x y,e.args = [x,y]:=by
    have h1 : shL e.op = 2:=by unfold shL; rw [if_neg (by omega),if_pos (by omega)]
    have h2 : shM e.op = 2:=by unfold shM; rw [if_neg (by omega),if_neg (by omega),if_pos (by omega)]
    have h3 : e.args.length = 2:=by omega
    cases hq : e.args with
    | nil=>rw [hq] at h3; simp at h3
    | cons x l =>
     cases l with
     | nil=>rw [hq] at h3; simp at h3
     | cons y l =>
      cases l with
      | nil=>exact ⟨x,y,rfl⟩
      | cons z l=>rw [hq] at h3; simp at h3
   have hx:=hl x (by rw [ha]; simp)
   have hy:=hl y (by rw [ha]; simp)
   rw [exTk_two h7 ha] at hb ⊢
   simp only [tl_cons,tl_append] at hb
   by_cases h3 : signI e.op = 3
   ·simp only [h3,if_true] at hb ⊢
    simp [Tryz.ntmps16,ha]
    refine ⟨_,_,signC e.op _,?_⟩
    have hle3 : ¬ (3 : Int) < least:=by omega
    have w3 : IntKind.i64.wrap (3 + 1) = 4:=by decide
    simp [hle3,ha,h3,exEnc]
    refine ⟨_,_,(hx 4).at h _ _ (by simp only [tl_nil]; omega),?_⟩
    simp [ha]
    refine awp_draw [] (by kernel_rfl) (by kernel_rfl) ?_
    simp
    refine ⟨_,_,(putV [signB e.op] (by rfl)).at h _ _ (by simp only [tl_append,tl_cons,tl_nil]; omega),?_⟩
    simp [ha]
    refine awp_draw [] (by kernel_rfl) (by kernel_rfl) ?_
    simp [ha,exEnc,w3]
    refine ⟨_,_,(hy 4).at h _ _ (by simp only [tl_append,tl_cons,tl_nil]; simp at hb; omega),?_⟩
    simp [ha]
   ·simp only [h3,if_false] at hb ⊢
    simp [Tryz.ntmps16,ha]
    refine ⟨_,_,signC e.op _,?_⟩
    simp [hle,h7,ha,h3,exEnc]
    refine ⟨_,_,(hx (signI e.op)).at h _ _ (by simp only [tl_nil]; omega),?_⟩
    simp [ha]
    refine awp_draw [] (by kernel_rfl) (by kernel_rfl) ?_
    simp
    refine ⟨_,_,(putV [signB e.op] (by rfl)).at h _ _ (by simp only [tl_append,tl_cons,tl_nil]; omega),?_⟩
    simp [ha]
    refine awp_draw [] (by kernel_rfl) (by kernel_rfl) ?_
    simp [ha,exEnc,w1]
    refine ⟨_,_,(hy (signI e.op + 1)).at h _ _ (by simp only [tl_append,tl_cons,tl_nil]; omega),?_⟩
    simp [ha]
 ·have hp:=hpw h7 hl
  simp [Tryz.ntmps16]
  refine ⟨_,_,signC e.op _,?_⟩
  by_cases hone : e.args.length = 1
  ·simp [hle,h7,hone]
   refine ⟨_,_,hp.at h _ _ (by simp only [tl_nil]; omega),?_⟩
   simp
  ·simp [hle,h7,hone]
   refine ⟨_,_,hp.at h _ _ (by simp only [tl_nil]; omega),?_⟩
   simp
theorem exprW : ∀ (e : Ex) (d0 : Int),e.whole d0 = true → ExRg e → ExW e:=by
 refine Ex.ind fun e ih d0 hw hr=>?_
 have hsub:=(ex_split hw).2.2.2.2
 have hl : ∀ x ∈ e.args,ExW x:=fun x hx=>ih x hx _ (hsub x hx) (((exRg_iff e).1 hr).2 x hx)
 intro least
 by_cases hlt : signI e.op < least
 ·have h0:=exprBody e d0 hw hr hl 0 (by have:=signI_nn e.op; omega)
  unfold parTk
  rw [if_pos hlt]
  refine WrC.intro fun S d i j p h hb=>?_
  simp only [tl_cons,tl_append,tl_nil] at hb
  refine ADet.intro mixed Tryz.call16 Tryz.func16 rfl ?_
  simp [Tryz.ntmps16]
  refine ⟨_,_,signC e.op _,?_⟩
  simp [hlt]
  refine ⟨_,_,(putV [(⟨#[40]⟩ : ByteArray)] (by rfl)).at h _ _ (by simp only [tl_cons,tl_nil]; omega),?_⟩
  simp
  refine ⟨_,_,h0.at h _ _ (by simp only [tl_append,tl_cons,tl_nil]; omega),?_⟩
  simp
  refine ⟨_,_,(putV [(⟨#[41]⟩ : ByteArray)] (by rfl)).at h _ _ (by simp only [tl_append,tl_cons,tl_nil]; omega),?_⟩
  simp
 ·have h0:=exprBody e d0 hw hr hl least hlt
  unfold parTk
  rw [if_neg hlt]
  exact h0
end Go.Proofs.YthohopjnpgbljaaGreatDoor
