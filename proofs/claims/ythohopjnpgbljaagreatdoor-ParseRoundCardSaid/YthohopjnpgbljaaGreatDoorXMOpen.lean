/- A part of the proof. The statement is proved in the claim's last text. -/
import Derived.Test.YthohopjnpgbljaaGreatDoorRows
import Derived.Test.YthohopjnpgbljaaGreatDoorXMLk
import Derived.ProofKit
import Derived.Test.YthohopjnpgbljaaGreatDoorXMLt
import Derived.Test.YthohopjnpgbljaaGreatDoorXMWp
import Derived.Test.YthohopjnpgbljaaGreatDoorCards
import Derived.Test.YthohopjnpgbljaaGreatDoorTie
import Derived.WalkKit
import Derived.OpenShut
import Derived.Deep.DeepHandedRow
import Derived.Deep.DeepWitnessRowRef
import Derived.Lib.LaidTab
set_option linter.unusedVariables false
set_option linter.unusedSimpArgs false
set_option maxRecDepth 100000
set_option maxHeartbeats 32000000
namespace Go.Proofs.YthohopjnpgbljaaGreatDoor
open Go.ChangeShapes Go.WideShapes Go.ChangeAt Go.RowKit
section
variable {H : Type} {enc : TypeId × Value → H} {P : Program} {w : World} {sp : Nat → Bool}
def Opens {α : Type} (enc : TypeId × Value → H) (P : Program) (w : World) (sp : Nat → Bool) (N : Nat) (T : TypeId) (size : Nat) (R : α → (Nat → Value) → Prop) : Prop :=
 ∀ fuel,fuel ≤ N → ∀ (f : Nat → Value) (x : DataW H × List MemPlace),DataW.trod enc P w 0 sp true fuel T ((List.range size).map f) = some x →
  (∀ b o,MemPlace.cell b o ∈ x.2 → w.frozen? ⟨b,o,none⟩ = false) → ∃ a,R a f
theorem list_of {α : Type} {Q : Nat → α → Prop} : ∀ n,(∀ i,i < n → ∃ a,Q i a) → ∃ l : List α,l.length = n ∧ ∀ i x,l[i]? = some x → Q i x
 | 0,_=>⟨[],rfl,fun i x h=>by simp at h⟩
 | n + 1,h=>by
  obtain ⟨l,hl,hq⟩:=list_of n fun i hi=>h i (by omega)
  obtain ⟨a,ha⟩:=h n (by omega)
  refine ⟨l ++ [a],by simp [hl],fun i x hx=>?_⟩
  rcases Nat.lt_or_ge i n with hi | hi
  ·rw [List.getElem?_append_left (by omega)] at hx
   exact hq i x hx
  ·have h1:=(List.getElem?_eq_some_iff.1 hx).1
   simp [hl] at h1
   obtain rfl : i = n:=by omega
   rw [List.getElem?_append_right (by omega),hl] at hx
   simp at hx
   exact hx ▸ ha
theorem spot_of_cell {a : Addr} {v : Value} (h : w.cell? a = some v) : a = ⟨a.block,a.off,none⟩:=by
 have : a.spot = none:=by
  cases hs : a.spot with
  | none=>rfl
  | some k =>
   unfold World.cell? at h
   split at h
   ·simp [hs] at h
   ·cases h
 cases a; simp_all
theorem add_none (b o n : Nat) : (⟨b,o,none⟩ : Addr).add n = ⟨b,o + n,none⟩:=by
 unfold Addr.add; split <;> simp_all
theorem opens_slice {α : Type} {N : Nat} {T e : TypeId} {size : Nat} {R : α → (Nat → Value) → Prop} (ht : P.underlying T = some (.slice e)) (hc : P.cellsOf e = size) (hs : 0 < size) (h : Opens enc P w sp N e size R) :
  Opens enc P w sp (N + 1) T 1 (fun l f=>RdSl w Any size R l (f 0)):=by
 intro fuel hf f x hx hfr
 have hx' : DataW.trod enc P w 0 sp true fuel T [f 0] = some x:=hx
 rcases DataW.trod_slice ht hx' with ⟨h1,h2⟩ | ⟨a,len,cap,elems,rest,n,hn,h1,h2,h3,h4,h5,h6,h7,h8,h9⟩
 ·refine ⟨[],none,0,by simpa using h1,Nat.le_refl _,by simp [maxLen],fun _=>rfl,fun i x h=>by simp at h⟩
 ·have key : ∀ i,i < len → ∃ y : α,∃ b off,some a = some (⟨b,off,none⟩ : Addr) ∧ Any b ∧ ∃ g : Nat → Value,R y g ∧ ∀ j,j < size → w.cell? ⟨b,off + i * size + j,none⟩ = some (g j) ∧ w.frozen? ⟨b,off + i * size + j,none⟩ = false:=by
   have at0 : ∀ i,i < len → ∃ cs y,w.cells? 0 (a.add (i * P.cellsOf e)) (P.cellsOf e) = some cs ∧ DataW.trod enc P w 0 sp true n e cs = some y ∧ elems[i]? = some y:=by
    intro i hi
    have:=h7 i hi
    have he : elems[i]? = some (elems[i]'(by omega)):=List.getElem?_eq_getElem (by omega)
    rw [he] at this
    obtain ⟨cs,k1,k2⟩:=Option.bind_eq_some_iff.1 this
    exact ⟨cs,_,k1,k2,he⟩
   intro i hi
   obtain ⟨cs0,y0,k0,_,_⟩:=at0 0 (by omega)
   obtain ⟨_,hl0,hcell0⟩:=World.cells?_some k0
   have hspot : a = ⟨a.block,a.off,none⟩:=by
    have:=hcell0 0 (by omega)
    rw [Nat.zero_mul] at this
    have e1 : (a.add 0).add 0 = a:=by unfold Addr.add; simp
    rw [e1,List.getElem?_eq_getElem (by omega)] at this
    exact spot_of_cell this
   obtain ⟨cs,y,k1,k2,k3⟩:=at0 i hi
   obtain ⟨_,hl,hcell⟩:=World.cells?_some k1
   have hcs : cs = (List.range size).map fun j=>cs.getD j undef:=by
    apply List.ext_getElem?
    intro j
    rcases Nat.lt_or_ge j size with hj | hj
    ·simp [hj,List.getD,List.getElem?_eq_getElem (show j < cs.length by omega)]
    ·rw [List.getElem?_eq_none (by omega),List.getElem?_eq_none (by simpa using hj)]
   rw [hcs] at k2
   have hfr' : ∀ b o,MemPlace.cell b o ∈ y.2 → w.frozen? ⟨b,o,none⟩ = false:=by
    intro b o hm
    refine hfr b o ?_
    rw [h2]
    refine List.mem_append_right _ (List.mem_flatMap.2 ⟨y,List.mem_append_left _ (List.mem_of_getElem? k3),hm⟩)
   obtain ⟨z,hz⟩:=h n (by omega) _ y k2 hfr'
   refine ⟨z,a.block,a.off,by rw [← hspot],trivial,_,hz,fun j hj=>⟨?_,?_⟩⟩
   ·have:=hcell j (by omega)
    rw [hspot,add_none,add_none,hc] at this
    rw [this]
    simp [List.getD,List.getElem?_eq_getElem (show j < cs.length by omega)]
   ·refine hfr _ _ ?_
    rw [h2]
    refine List.mem_append_left _ ?_
    unfold MemPlace.row
    refine List.mem_map.2 ⟨i * size + j,?_,by simp [Nat.add_assoc]⟩
    rw [List.mem_range,hc,h6]
    calc i * size + j < i * size + size:=by omega
     _ = (i + 1) * size:=by rw [Nat.add_mul]; omega
     _ ≤ (len + rest.length) * size:=Nat.mul_le_mul_right _ (by omega)
  obtain ⟨l,hl,hq⟩:=list_of len key
  refine ⟨l,some a,cap,by rw [hl]; simpa using h1,by omega,h5,(fun h=>by cases h),fun i x hx=>hq i x hx⟩
theorem opens_u8 {N : Nat} {T : TypeId} (ht : P.underlying T = some (.int .u8)) : Opens enc P w sp N T 1 (fun (k : Int) f=>f 0 = .int .u8 k ∧ 0 ≤ k ∧ k ≤ 255):=by
 intro fuel _ f x hx _
 obtain ⟨n,h1,_,h2⟩:=DataW.trod_int ht (show DataW.trod enc P w 0 sp true fuel T [f 0] = some x from hx)
 refine ⟨n,by simpa using h1,?_⟩
 simpa [Lit.wf,IntKind.min,IntKind.max,IntKind.signed,IntKind.bits] using h2
theorem opens_i64 {N : Nat} {T : TypeId} (ht : P.underlying T = some (.int .i64)) : Opens enc P w sp N T 1 (fun (k : Int) f=>f 0 = .int .i64 k ∧ i64 k):=by
 intro fuel _ f x hx _
 obtain ⟨n,h1,_,h2⟩:=DataW.trod_int ht (show DataW.trod enc P w 0 sp true fuel T [f 0] = some x from hx)
 refine ⟨n,by simpa using h1,?_⟩
 unfold i64
 simpa [Lit.wf,IntKind.min,IntKind.max,IntKind.signed,IntKind.bits] using h2
theorem opens_str {N : Nat} {T : TypeId} (ht : P.underlying T = some .string) : Opens enc P w sp N T 1 RdStr:=by
 intro fuel _ f x hx _
 obtain ⟨s,h1,_,h2⟩:=DataW.trod_string ht (show DataW.trod enc P w 0 sp true fuel T [f 0] = some x from hx)
 exact ⟨s,by simpa using h1,h2⟩
theorem range_part (f : Nat → Value) (size o k : Nat) (h : o + k ≤ size) : (((List.range size).map f).drop o).take k = (List.range k).map fun j=>f (o + j):=by
 apply List.ext_getElem?
 intro j
 rcases Nat.lt_or_ge j k with hj | hj
 ·rw [List.getElem?_take_of_lt hj,List.getElem?_drop]
  simp only [List.getElem?_map,List.getElem?_range (show o + j < size by omega),List.getElem?_range hj,Option.map_some]
 ·rw [List.getElem?_eq_none (by simp; omega),List.getElem?_eq_none (by simpa using hj)]
theorem opens_fields {T : TypeId} {fs : Array Field} {size fuel : Nat} {f : Nat → Value} {x : DataW H × List MemPlace} (hT : P.underlying T = some (.struct fs)) (hx : DataW.trod enc P w 0 sp true fuel T ((List.range size).map f) = some x)
  (hfr : ∀ b o,MemPlace.cell b o ∈ x.2 → w.frozen? ⟨b,o,none⟩ = false) :
  ∃ n,fuel = n + 1 ∧ ∀ (i : Nat) (fd : Field),fs[i]? = some fd → ∀ T' o k,fd.type = T' → fd.offset = o → P.cellsOf T' = k → o + k ≤ size → ∃ y,DataW.trod enc P w 0 sp true n T' ((List.range k).map fun j=>f (o + j)) = some y ∧ ∀ b o,MemPlace.cell b o ∈ y.2 → w.frozen? ⟨b,o,none⟩ = false:=by
 obtain ⟨xs,n,hn,h1,h2,h3,h4⟩:=DataW.trod_struct hT hx
 refine ⟨n,hn,fun i fd hi T' o k hT' ho hk hs=>?_⟩
 subst hT' ho
 have hlt : i < xs.length:=by rw [h3]; exact (Array.getElem?_eq_some_iff.1 hi).1
 have h:=h4 i fd hi
 rw [hk,range_part _ _ _ _ hs,List.getElem?_eq_getElem hlt] at h
 exact ⟨_,h,fun b o hm=>hfr b o (by rw [h1]; exact List.mem_flatMap.2 ⟨_,List.getElem_mem hlt,hm⟩)⟩
theorem open_param {α : Type} {T : TypeId} {size : Nat} {R : α → (Nat → Value) → Prop} {r : Reach} {b0 : Nat} {fs : Array Field} (hs : P.underlying T = some (.struct fs)) (hc : P.cellsOf T = size) (h : ∀ N,Opens enc P w sp N T size R) {v : Value} {d : DataW H} {p : List MemPlace}
  (hv : Value.okWide P w r b0 T v) (ht : DataW.Trod enc P w 0 sp true T v d p) (hfr : ∀ b o,MemPlace.cell b o ∈ p → w.frozen? ⟨b,o,none⟩ = false) : ∃ a f,v = .agg ((List.range size).map f).toArray ∧ R a f:=by
 obtain ⟨cs,rfl,hsz⟩:=okWide_struct hs hv
 obtain ⟨fuel,ht⟩:=ht
 have hl : cs.toList.length = size:=by simpa [hc] using hsz
 have hcs : cs.toList = (List.range size).map fun j=>cs.toList.getD j undef:=by
  apply List.ext_getElem?
  intro j
  rcases Nat.lt_or_ge j size with hj | hj
  ·simp only [List.getElem?_map,List.getElem?_range hj,Option.map_some,List.getD,List.getElem?_eq_getElem (show j < cs.toList.length by omega),Option.getD_some]
  ·rw [List.getElem?_eq_none (by omega),List.getElem?_eq_none (by simpa using hj)]
 obtain ⟨a,ha⟩:=h fuel fuel (Nat.le_refl _) (fun j=>cs.toList.getD j undef) (d,p) (by rw [← hcs]; exact ht) hfr
 exact ⟨a,_,by rw [← hcs],ha⟩
theorem all_stay (hl : laidOutB P = true) {W W' : World} (hb : Below W.heap.size W W') : ∀ (ts : List TypeId),(∀ t ∈ ts,P.readableRec t = true ∧ t < P.types.size) → ∀ (vs : List Value) (ds : List (DataW H)) (ps : List MemPlace),
  DataW.TrodAll enc P W 0 (fun _=>true) true ts vs ds ps → (∀ x ∈ ps,x.block < W.heap.size) → ∀ sp : Nat → Bool,(∀ x ∈ ps,sp x.block = true) → DataW.TrodAll enc P W' 0 sp true ts vs ds ps
 | [],_,vs,ds,ps,h,_,_,_=>by
  obtain ⟨rfl,rfl,rfl⟩:=trodAll_nil h
  exact rfl
 | t :: ts,hr,vs,ds,ps,h,hlt,sp,hsp=>by
  obtain ⟨v,vs,d,ds,p,q,rfl,rfl,rfl,h1,h2⟩:=trodAll_cons h
  have hrt:=hr t (by simp)
  exact ⟨p,q,WideElems.Trod_stays hl hrt.1 hrt.2 h1 (fun x hx=>hb.same (hlt x (List.mem_append_left _ hx))) (fun x hx=>hsp x (List.mem_append_left _ hx)),
   all_stay hl hb ts (fun t ht=>hr t (List.mem_cons_of_mem _ ht)) vs ds q h2 (fun x hx=>hlt x (List.mem_append_right _ hx)) sp (fun x hx=>hsp x (List.mem_append_right _ hx)),rfl⟩
theorem law_post {f : Func} {s : ChangeSpec} {W W' : World} {args : Array Value} {ds : List (DataW H)} {before : List MemPlace} {tb : TypeId} (hl : laidOutB P = true) (hr : ∀ t ∈ f.params.toList,P.readableRec t = true ∧ t < P.types.size)
  (hW : DataW.Whole enc P f.params.toList s.vars false W args.toList ds [] before) (hv : s.vars = []) (hs : s.fn H (ds ++ []) = { results:=[.lit (.bool true)],args:=ds }) (hres : f.resultTypes = #[tb]) (htb : P.underlying tb = some .bool) (hb : Below W.heap.size W W') :
  s.post enc P f false true false false W args (.bool true) W':=by
 have hlt:=hW.lt
 have hW':=hW
 obtain ⟨p,q,hA,hV,rfl,_,_⟩:=hW
 have hq : q = []:=by rw [hv] at hV; exact hV
 subst hq
 simp only [List.append_nil] at hlt hW' hs
 refine ⟨ds,[],p,[],p,[],hW',?_,?_,?_,World.keptBut_mono (fun x hx=>⟨hx,Or.inr (Or.inl hx)⟩) (hb.frame (· ∈ p)),fun h=>by cases h⟩
 ·rw [List.append_nil,hs,hres]
  exact trodAll_mk1 (shut_bool htb true)
 ·rw [List.append_nil,hs]
  exact all_stay hl hb _ hr _ _ _ hA hlt _ fun x hx=>by simpa using hlt x hx
 ·rw [hv,List.append_nil,hs]
  exact rfl
end
section
variable {H : Type} {enc : TypeId × Value → H} {w : World} {sp : Nat → Bool}
theorem laidOut : laidOutB Tryz.prog = true:=by kernel_rfl
theorem own : ownKnob Tryz.prog.godebug = none:=by kernel_rfl
theorem cells_u8 : Tryz.prog.cellsOf 5 = 1:=by kernel_rfl
theorem cells_int : Tryz.prog.cellsOf 3 = 1:=by kernel_rfl
theorem cells_i64 : Tryz.prog.cellsOf 2 = 1:=by kernel_rfl
theorem cells_string : Tryz.prog.cellsOf 9 = 1:=by kernel_rfl
end
end Go.Proofs.YthohopjnpgbljaaGreatDoor
namespace Go.Proofs.YthohopjnpgbljaaGreatDoor
open Go.ChangeShapes Go.WideShapes Go.ChangeAt Go.RowKit
section
variable {H : Type} {enc : TypeId × Value → H} {w : World} {sp : Nat → Bool}
theorem readable_Expr : Tryz.prog.readableRec 27 = true ∧ 27 < Tryz.prog.types.size:=⟨by kernel_rfl,of_decide_eq_true (by kernel_rfl)⟩
theorem cells_Expr : Tryz.prog.cellsOf 27 = 8:=by kernel_rfl
theorem cells_Place : Tryz.prog.cellsOf 24 = 2:=by kernel_rfl
theorem cells_strs : Tryz.prog.cellsOf 22 = 1:=by kernel_rfl
theorem cells_Exprs : Tryz.prog.cellsOf 25 = 1:=by kernel_rfl
theorem opens_Place : ∀ N,Opens enc Tryz.prog w sp N 24 2 (PlIn w Any):=by
 intro N fuel hf f x hx hfr
 obtain ⟨n,hn,hfd⟩:=opens_fields Tryz.underlying24 hx hfr
 obtain ⟨y0,a0,b0⟩:=hfd 0 _ rfl 9 0 1 rfl rfl cells_string (by omega)
 obtain ⟨y1,a1,b1⟩:=hfd 1 _ rfl 22 1 1 rfl rfl cells_strs (by omega)
 obtain ⟨s,s1,s2⟩:=opens_str (N:=n) Tryz.underlying9 n (Nat.le_refl _) (fun j=>f (0 + j)) y0 a0 b0
 cases n with
 | zero=>simp [DataW.trod] at a0
 | succ n =>
  obtain ⟨l,hl⟩:=opens_slice (N:=n) (R:=RdStr) Tryz.underlying22 cells_string (by omega) (opens_str (N:=n) Tryz.underlying9) (n + 1) (Nat.le_refl _) (fun j=>f (1 + j)) y1 a1 b1
  exact ⟨⟨s,l⟩,s1,s2,hl⟩
theorem opens_Expr : ∀ N,Opens enc Tryz.prog w sp N 27 8 (ExIn w Any):=by
 intro N
 induction N using Nat.strongRecOn with
 | _ N ih =>
  intro fuel hf f x hx hfr
  obtain ⟨n,hn,hfd⟩:=opens_fields Tryz.underlying27 hx hfr
  obtain ⟨y0,a0,b0⟩:=hfd 0 _ rfl 5 0 1 rfl rfl cells_u8 (by omega)
  obtain ⟨y1,a1,b1⟩:=hfd 1 _ rfl 2 1 1 rfl rfl cells_i64 (by omega)
  obtain ⟨y2,a2,b2⟩:=hfd 2 _ rfl 9 2 1 rfl rfl cells_string (by omega)
  obtain ⟨y3,a3,b3⟩:=hfd 3 _ rfl 9 3 1 rfl rfl cells_string (by omega)
  obtain ⟨y4,a4,b4⟩:=hfd 4 _ rfl 24 4 2 rfl rfl cells_Place (by omega)
  obtain ⟨y5,a5,b5⟩:=hfd 5 _ rfl 25 6 1 rfl rfl cells_Exprs (by omega)
  obtain ⟨y6,a6,b6⟩:=hfd 6 _ rfl 3 7 1 rfl rfl cells_int (by omega)
  obtain ⟨k,k1,k2,k3⟩:=opens_u8 (N:=n) Tryz.underlying5 n (Nat.le_refl _) (fun j=>f (0 + j)) y0 a0 b0
  obtain ⟨i,i1,i2⟩:=opens_i64 (N:=n) Tryz.underlying2 n (Nat.le_refl _) (fun j=>f (1 + j)) y1 a1 b1
  obtain ⟨s,s1,s2⟩:=opens_str (N:=n) Tryz.underlying9 n (Nat.le_refl _) (fun j=>f (2 + j)) y2 a2 b2
  obtain ⟨r,r1,r2⟩:=opens_str (N:=n) Tryz.underlying9 n (Nat.le_refl _) (fun j=>f (3 + j)) y3 a3 b3
  obtain ⟨x,hx1⟩:=opens_Place (enc:=enc) (w:=w) (sp:=sp) n n (Nat.le_refl _) (fun j=>f (4 + j)) y4 a4 b4
  obtain ⟨q,q1,q2⟩:=opens_i64 (N:=n) Tryz.underlying3 n (Nat.le_refl _) (fun j=>f (7 + j)) y6 a6 b6
  cases n with
  | zero=>simp [DataW.trod] at a0
  | succ n =>
   obtain ⟨l,hl⟩:=opens_slice (N:=n) Tryz.underlying25 cells_Expr (by omega) (ih n (by omega)) (n + 1) (Nat.le_refl _) (fun j=>f (6 + j)) y5 a5 b5
   exact ⟨.mk k i s r x l q,ExIn.iff.2 ⟨⟨k1,⟨k2,k3⟩,i1,i2,s1,s2,r1,r2,hx1,q1,q2⟩,hl⟩⟩
end
theorem rd_mem {α : Type} {w : World} {S : Nat → Prop} {size : Nat} {R : α → (Nat → Value) → Prop} {l : List α} {v : Value} (h : RdSl w S size R l v) {x : α} (hx : x ∈ l) : ∃ f,R x f:=by
 obtain ⟨A,cap,_,_,_,_,h5⟩:=h
 obtain ⟨i,hi⟩:=List.mem_iff_getElem?.1 hx
 obtain ⟨b,off,_,_,f,hf,_⟩:=h5 i x hi
 exact ⟨f,hf⟩
theorem exRg_of {w : World} {S : Nat → Prop} : ∀ (e : Ex) (f : Nat → Value),ExIn w S e f → ExRg e:=by
 refine Ex.ind fun e ih f h=>?_
 obtain ⟨⟨_,_,_,h1,_⟩,h2⟩:=ExIn.iff.1 h
 refine (exRg_iff e).2 ⟨h1,fun x hx=>?_⟩
 obtain ⟨g,hg⟩:=rd_mem h2 hx
 exact ih x hx g hg
theorem laid_tail {P : Program} {x : String × DataW Unit} {r : List (String × DataW Unit)} {w : World} (h : laidMet P (x :: r) w) : laidMet P r w:=by
 obtain ⟨ps,⟨g',t',cs,fuel,p,q,hg',ht',hvar,hd,hr,rfl⟩,hn,hc⟩:=h
 exact ⟨q,hr,(List.nodup_append.1 hn).2.1,fun b off hm=>hc b off (List.mem_append_right _ hm)⟩
theorem var_cells {P : Program} {w : World} {name : String} {g : Nat} {cs : Array Value} (hg : P.globalNamed name = some g) (h : w.var? P name = some cs) : ∃ t fz,w.heap[g]? = some (.cells cs t fz):=by
 unfold World.var? at h
 rw [hg] at h
 simp only [Option.bind_some] at h
 split at h
 ·rename_i c t fz hh
  cases h
  exact ⟨t,fz,hh⟩
 ·cases h
theorem tab_one {P : Program} {w : World} {name : String} {g : Nat} {k : IntKind} {zs : List Int} (hg : P.globalNamed name = some g) (h : Lib.TabIs P w name k zs) (hne : zs ≠ []) :
  (zs.map fun z=>Value.int k z) ≠ [] ∧ (∀ j x,(zs.map fun z=>Value.int k z)[j]? = some x → allOf w g j = some x) ∧ (∃ t fz,w.heap[g]? = some (.cells (zs.map fun z=>Value.int k z).toArray t fz)) ∧ ∀ d i e,get2 ([[]] : Fi2) d i = some e → e.blk ≠ some g:=by
 obtain ⟨t,fz,hh⟩:=var_cells hg h
 refine ⟨by simpa using hne,fun j x hx=>?_,⟨t,fz,hh⟩,fun d i e he=>?_⟩
 ·unfold allOf World.cell?
  simp [hh]
  simpa using hx
 ·cases d with
  | zero=>simp [get2] at he
  | succ d=>simp [get2] at he
end Go.Proofs.YthohopjnpgbljaaGreatDoor
namespace Go.Proofs.YthohopjnpgbljaaGreatDoor
open Go.ChangeShapes Go.WideShapes Go.ChangeAt Go.RowKit
section
variable {H : Type} {enc : TypeId × Value → H} {w : World} {sp : Nat → Bool}
end
end Go.Proofs.YthohopjnpgbljaaGreatDoor
namespace Go.Proofs.YthohopjnpgbljaaGreatDoor
open Go.ChangeShapes Go.WideShapes Go.ChangeAt Go.RowKit
theorem gAscii : Tryz.prog.globalNamed "strings.asciiSpace" = some 2:=by kernel_rfl
theorem gAsciiType : (Tryz.prog.globals[2]?).map (·.type) = some 184:=by kernel_rfl
theorem gPow : Tryz.prog.globalNamed "internal/strconv.uint64pow10" = some 0:=by kernel_rfl
theorem gPowType : (Tryz.prog.globals[0]?).map (·.type) = some 178:=by kernel_rfl
theorem cells256 : Tryz.prog.cellsOf 184 = 256:=by kernel_rfl
theorem cells20 : Tryz.prog.cellsOf 178 = 20:=by kernel_rfl
theorem cells64 : Tryz.prog.cellsOf 147 = 1:=by kernel_rfl
theorem ascii_data : (Rows.laid_strings_asciiSpace : DataW Unit) = Lib.tabData .u8 Lib.asciiSpaceTab:=by kernel_rfl
theorem pow_data : (Rows.laid_internal_strconv_uint64pow10 : DataW Unit) = Lib.tabData .u64 Lib.pow10Tab:=by kernel_rfl
theorem ascii_ne : Lib.asciiSpaceTab ≠ []:=by decide
theorem pow_ne : Lib.pow10Tab ≠ []:=by decide
theorem tabs_met {W : World} (h : laidMetH Tryz.prog [("math/bits.deBruijn32tab",Rows.laid_math_bits_deBruijn32tab),("math/bits.deBruijn64tab",Rows.laid_math_bits_deBruijn64tab),("internal/strconv.uint64pow10",Rows.laid_internal_strconv_uint64pow10),("unicode.White_Space",Rows.laid_unicode_White_Space),("strings.asciiSpace",Rows.laid_strings_asciiSpace)] W) : TabsP (allOf W) [[]] W:=by
 have h1 : laidMet Tryz.prog [("math/bits.deBruijn32tab",Rows.laid_math_bits_deBruijn32tab),("math/bits.deBruijn64tab",Rows.laid_math_bits_deBruijn64tab),("internal/strconv.uint64pow10",Rows.laid_internal_strconv_uint64pow10),("unicode.White_Space",Rows.laid_unicode_White_Space),("strings.asciiSpace",Rows.laid_strings_asciiSpace)] W:=h
 have h2:=laid_tail (laid_tail h1)
 have h3:=laid_tail (laid_tail h2)
 rw [pow_data] at h2
 rw [ascii_data] at h3
 have a:=Lib.tabIs_of_head gPow gPowType Tryz.underlying178 Tryz.underlying147 cells64 cells20 h2
 have b:=Lib.tabIs_of_head (rest:=[]) gAscii gAsciiType Tryz.underlying184 Tryz.underlying5 cells_u8 cells256 h3
 intro g cs hm
 unfold tabList at hm
 simp only [List.mem_cons,List.not_mem_nil,or_false,Prod.mk.injEq] at hm
 rcases hm with ⟨rfl,rfl⟩ | ⟨rfl,rfl⟩
 ·exact tab_one gAscii b ascii_ne
 ·exact tab_one gPow a pow_ne
noncomputable def laidWorld (os : Os) : World :=
 let N:=(World.settled Tryz.prog os).heap.size
 let w0:=World.holding Tryz.prog os ⟨#[.cells #[.int .u16 9,.int .u16 13,.int .u16 1,.int .u16 32,.int .u16 133,.int .u16 101,.int .u16 160,.int .u16 5760,.int .u16 5600,.int .u16 8192,.int .u16 8202,.int .u16 1,.int .u16 8232,.int .u16 8233,.int .u16 1,.int .u16 8239,.int .u16 8287,.int .u16 48,.int .u16 12288,.int .u16 12288,.int .u16 1] 211,
  .cells #[.slice (some ⟨N,0,none⟩) 7 7,.slice none 0 0,.int .i64 2] 208],#[],[]⟩
 let put (h : Array Obj) (g : Nat) (cs : Array Value) : Array Obj:=h.modify g fun
  | .cells _ t frozen=>.cells cs t frozen
  | o=>o
 let h1:=put w0.heap 2 (Lib.asciiSpaceTab.map fun z=>Value.int .u8 z).toArray
 let h2:=put h1 3 #[.pointer (some ⟨N + 1,0,none⟩)]
 let h3:=put h2 0 (Lib.pow10Tab.map fun z=>Value.int .u64 z).toArray
 let cellsOf (d : DataW Unit) : Array Value:=match d with
  | .agg l=>(l.map fun
   | .lit (.int k z)=>Value.int k z
   | _=>undef).toArray
  | _=>#[]
 let h4:=put h3 4 (cellsOf Rows.laid_math_bits_deBruijn32tab)
 let h5:=put h4 5 (cellsOf Rows.laid_math_bits_deBruijn64tab)
 { w0 with heap:=h5 }
end Go.Proofs.YthohopjnpgbljaaGreatDoor
