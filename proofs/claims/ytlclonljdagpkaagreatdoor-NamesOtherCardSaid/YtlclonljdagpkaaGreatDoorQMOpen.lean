/- A part of the proof. The statement is proved in the claim's last text. -/
import Derived.Test.YtlclonljdagpkaaGreatDoorRows
import Derived.Test.YtlclonljdagpkaaGreatDoorQMLk
import Derived.ProofKit
import Derived.Test.YtlclonljdagpkaaGreatDoorQMLt
import Derived.Test.YtlclonljdagpkaaGreatDoorQMWp
set_option linter.unusedVariables false
set_option linter.unusedSimpArgs false
set_option maxRecDepth 100000
set_option maxHeartbeats 32000000
namespace Go.Proofs.YtlclonljdagpkaaGreatDoor
open Go.ChangeShapes Go.WideShapes Go.ChangeAt Go.RowKit
section
variable {H : Type} {enc : TypeId × Value -> H} {P : Program} {w : World} {sp : Nat -> Bool}
def zEi {α : Type} (enc : TypeId × Value -> H) (P : Program) (w : World) (sp : Nat -> Bool) (N : Nat) (T : TypeId) (size : Nat) (R : α -> (Nat -> Value) -> Prop) : Prop :=
 ∀ fuel,fuel <= N -> ∀ (f : Nat -> Value) (x : DataW H × List MemPlace),DataW.trod enc P w 0 sp true fuel T ((List.range size).map f) = some x ->
  (∀ b o,MemPlace.cell b o ∈ x.2 -> w.frozen? ⟨b,o,none⟩ = false) -> ∃ a,R a f
theorem zP8 {α : Type} {Q : Nat -> α -> Prop} : ∀ n,(∀ i,i < n -> ∃ a,Q i a) -> ∃ l : List α,l.length = n /\ ∀ i x,l[i]? = some x -> Q i x
 | 0,_=>⟨[],rfl,fun i x h=>by simp at h⟩
 | n + 1,h=>by
  obtain ⟨l,hl,hq⟩:=zP8 n fun i hi=>h i (by omega)
  obtain ⟨a,ha⟩:=h n (by omega)
  refine ⟨l ++ [a],by simp [hl],fun i x hx=>?_⟩
  rcases Nat.lt_or_ge i n with hi | hi
  .rw [List.getElem?_append_left (by omega)] at hx
   exact hq i x hx
  .have h1:=(List.getElem?_eq_some_iff.1 hx).1
   simp [hl] at h1
   obtain rfl : i = n:=by omega
   rw [List.getElem?_append_right (by omega),hl] at hx
   simp at hx;exact hx ▸ ha
theorem zJ7 {a : Addr} {v : Value} (h : w.cell? a = some v) : a = ⟨a.block,a.off,none⟩:=by
 have : a.spot = none:=by
  cases hs : a.spot with
  | none=>rfl
  | some k =>
   unfold World.cell? at h;split at h
   .simp [hs] at h
   .cases h
 cases a; simp_all
theorem zMQ (b o n : Nat) : (⟨b,o,none⟩ : Addr).add n = ⟨b,o + n,none⟩:=by
 unfold Addr.add; split <;> simp_all
theorem zAV {α : Type} {N : Nat} {T e : TypeId} {size : Nat} {R : α -> (Nat -> Value) -> Prop} (ht : P.underlying T = some (.slice e)) (hc : P.cellsOf e = size) (hs : 0 < size) (h : zEi enc P w sp N e size R) :
  zEi enc P w sp (N + 1) T 1 (fun l f=>RdSl w Any size R l (f 0)):=by
 intro fuel hf f x hx hfr
 have hx' : DataW.trod enc P w 0 sp true fuel T [f 0] = some x:=hx
 rcases DataW.trod_slice ht hx' with ⟨h1,h2⟩ | ⟨a,len,cap,elems,rest,n,hn,h1,h2,h3,h4,h5,h6,h7,h8,h9⟩
 .refine ⟨[],none,0,by simpa using h1,Nat.le_refl _,by simp [maxLen],fun _=>rfl,fun i x h=>by simp at h⟩
 .have key : ∀ i,i < len -> ∃ y : α,∃ b off,some a = some (⟨b,off,none⟩ : Addr) /\ Any b /\ ∃ g : Nat -> Value,R y g /\ ∀ j,j < size -> w.cell? ⟨b,off + i * size + j,none⟩ = some (g j) /\ w.frozen? ⟨b,off + i * size + j,none⟩ = false:=by
   have at0 : ∀ i,i < len -> ∃ cs y,w.cells? 0 (a.add (i * P.cellsOf e)) (P.cellsOf e) = some cs /\ DataW.trod enc P w 0 sp true n e cs = some y /\ elems[i]? = some y:=by
    intro i hi
    have:=h7 i hi
    have he : elems[i]? = some (elems[i]'(by omega)):=List.getElem?_eq_getElem (by omega)
    rw [he] at this
    obtain ⟨cs,k1,k2⟩:=Option.bind_eq_some_iff.1 this
    exact ⟨cs,_,k1,k2,he⟩
   intro i hi
   obtain ⟨cs0,y0,k0,_,_⟩:=at0 0 (by omega)
   obtain ⟨_,hl0,hcell0⟩:=World.cells?_some k0
   have hspot : a = ⟨a.block,a.off,none⟩:=by
    have:=hcell0 0 (by omega)
    rw [Nat.zero_mul] at this
    have e1 : (a.add 0).add 0 = a:=by unfold Addr.add; simp
    rw [e1,List.getElem?_eq_getElem (by omega)] at this
    exact zJ7 this
   obtain ⟨cs,y,k1,k2,k3⟩:=at0 i hi
   obtain ⟨_,hl,hcell⟩:=World.cells?_some k1
   have hcs : cs = (List.range size).map fun j=>cs.getD j undef:=by
    apply List.ext_getElem?
    intro j
    rcases Nat.lt_or_ge j size with hj | hj
    .simp [hj,List.getD,List.getElem?_eq_getElem (show j < cs.length by omega)]
    .rw [List.getElem?_eq_none (by omega),List.getElem?_eq_none (by simpa using hj)]
   rw [hcs] at k2
   have hfr' : ∀ b o,MemPlace.cell b o ∈ y.2 -> w.frozen? ⟨b,o,none⟩ = false:=by
    intro b o hm;refine hfr b o ?_;rw [h2];refine List.mem_append_right _ (List.mem_flatMap.2 ⟨y,List.mem_append_left _ (List.mem_of_getElem? k3),hm⟩)
   obtain ⟨z,hz⟩:=h n (by omega) _ y k2 hfr'
   refine ⟨z,a.block,a.off,by rw [<- hspot],trivial,_,hz,fun j hj=>⟨?_,?_⟩⟩
   .have:=hcell j (by omega)
    rw [hspot,zMQ,zMQ,hc] at this;rw [this];simp [List.getD,List.getElem?_eq_getElem (show j < cs.length by omega)]
   .refine hfr _ _ ?_
    rw [h2];refine List.mem_append_left _ ?_;unfold MemPlace.row;refine List.mem_map.2 ⟨i * size + j,?_,by simp [Nat.add_assoc]⟩
    rw [List.mem_range,hc,h6]
    calc i * size + j < i * size + size:=by omega
     _ = (i + 1) * size:=by rw [Nat.add_mul]; omega
     _ <= (len + rest.length) * size:=Nat.mul_le_mul_right _ (by omega)
  obtain ⟨l,hl,hq⟩:=zP8 len key
  refine ⟨l,some a,cap,by rw [hl]; simpa using h1,by omega,h5,(fun h=>by cases h),fun i x hx=>hq i x hx⟩
theorem zGC {N : Nat} {T : TypeId} (ht : P.underlying T = some (.int .u8)) : zEi enc P w sp N T 1 (fun (k : Int) f=>f 0 = .int .u8 k /\ 0 <= k /\ k <= 255):=by
 intro fuel _ f x hx _
 obtain ⟨n,h1,_,h2⟩:=DataW.trod_int ht (show DataW.trod enc P w 0 sp true fuel T [f 0] = some x from hx)
 refine ⟨n,by simpa using h1,?_⟩
 simpa [Lit.wf,IntKind.min,IntKind.max,IntKind.signed,IntKind.bits] using h2
theorem zDq {N : Nat} {T : TypeId} (ht : P.underlying T = some (.int .i64)) : zEi enc P w sp N T 1 (fun (k : Int) f=>f 0 = .int .i64 k /\ i64 k):=by
 intro fuel _ f x hx _
 obtain ⟨n,h1,_,h2⟩:=DataW.trod_int ht (show DataW.trod enc P w 0 sp true fuel T [f 0] = some x from hx)
 refine ⟨n,by simpa using h1,?_⟩
 unfold i64
 simpa [Lit.wf,IntKind.min,IntKind.max,IntKind.signed,IntKind.bits] using h2
theorem zA8 {N : Nat} {T : TypeId} (ht : P.underlying T = some .string) : zEi enc P w sp N T 1 zM9:=by
 intro fuel _ f x hx _
 obtain ⟨s,h1,_,h2⟩:=DataW.trod_string ht (show DataW.trod enc P w 0 sp true fuel T [f 0] = some x from hx)
 exact ⟨s,by simpa using h1,h2⟩
theorem zNe (f : Nat -> Value) (size o k : Nat) (h : o + k <= size) : (((List.range size).map f).drop o).take k = (List.range k).map fun j=>f (o + j):=by
 apply List.ext_getElem?
 intro j
 rcases Nat.lt_or_ge j k with hj | hj
 .rw [List.getElem?_take_of_lt hj,List.getElem?_drop]
  simp only [List.getElem?_map,List.getElem?_range (show o + j < size by omega),List.getElem?_range hj,Option.map_some]
 .rw [List.getElem?_eq_none (by simp; omega),List.getElem?_eq_none (by simpa using hj)]
theorem zA1 {T : TypeId} {fs : Array Field} {size fuel : Nat} {f : Nat -> Value} {x : DataW H × List MemPlace} (hT : P.underlying T = some (.struct fs)) (hx : DataW.trod enc P w 0 sp true fuel T ((List.range size).map f) = some x)
  (hfr : ∀ b o,MemPlace.cell b o ∈ x.2 -> w.frozen? ⟨b,o,none⟩ = false) :
  ∃ n,fuel = n + 1 /\ ∀ (i : Nat) (fd : Field),fs[i]? = some fd -> ∀ T' o k,fd.type = T' -> fd.offset = o -> P.cellsOf T' = k -> o + k <= size -> ∃ y,DataW.trod enc P w 0 sp true n T' ((List.range k).map fun j=>f (o + j)) = some y /\ ∀ b o,MemPlace.cell b o ∈ y.2 -> w.frozen? ⟨b,o,none⟩ = false:=by
 obtain ⟨xs,n,hn,h1,h2,h3,h4⟩:=DataW.trod_struct hT hx
 refine ⟨n,hn,fun i fd hi T' o k hT' ho hk hs=>?_⟩
 subst hT' ho
 have hlt : i < xs.length:=by rw [h3]; exact (Array.getElem?_eq_some_iff.1 hi).1
 have h:=h4 i fd hi
 rw [hk,zNe _ _ _ _ hs,List.getElem?_eq_getElem hlt] at h;exact ⟨_,h,fun b o hm=>hfr b o (by rw [h1]; exact List.mem_flatMap.2 ⟨_,List.getElem_mem hlt,hm⟩)⟩
theorem zH8 {α : Type} {T : TypeId} {size : Nat} {R : α -> (Nat -> Value) -> Prop} {r : Reach} {b0 : Nat} {fs : Array Field} (hs : P.underlying T = some (.struct fs)) (hc : P.cellsOf T = size) (h : ∀ N,zEi enc P w sp N T size R) {v : Value} {d : DataW H} {p : List MemPlace}
  (hv : Value.okWide P w r b0 T v) (ht : DataW.Trod enc P w 0 sp true T v d p) (hfr : ∀ b o,MemPlace.cell b o ∈ p -> w.frozen? ⟨b,o,none⟩ = false) : ∃ a f,v = .agg ((List.range size).map f).toArray /\ R a f:=by
 obtain ⟨cs,rfl,hsz⟩:=okWide_struct hs hv
 obtain ⟨fuel,ht⟩:=ht
 have hl : cs.toList.length = size:=by simpa [hc] using hsz
 have hcs : cs.toList = (List.range size).map fun j=>cs.toList.getD j undef:=by
  apply List.ext_getElem?
  intro j
  rcases Nat.lt_or_ge j size with hj | hj
  .simp only [List.getElem?_map,List.getElem?_range hj,Option.map_some,List.getD,List.getElem?_eq_getElem (show j < cs.toList.length by omega),Option.getD_some]
  .rw [List.getElem?_eq_none (by omega),List.getElem?_eq_none (by simpa using hj)]
 obtain ⟨a,ha⟩:=h fuel fuel (Nat.le_refl _) (fun j=>cs.toList.getD j undef) (d,p) (by rw [<- hcs]; exact ht) hfr
 exact ⟨a,_,by rw [<- hcs],ha⟩
theorem zMR (hl : laidOutB P = true) {W W' : World} (hb : Below W.heap.size W W') : ∀ (ts : List TypeId),(∀ t ∈ ts,P.readableRec t = true /\ t < P.types.size) -> ∀ (vs : List Value) (ds : List (DataW H)) (ps : List MemPlace),
  DataW.TrodAll enc P W 0 (fun _=>true) true ts vs ds ps -> (∀ x ∈ ps,x.block < W.heap.size) -> ∀ sp : Nat -> Bool,(∀ x ∈ ps,sp x.block = true) -> DataW.TrodAll enc P W' 0 sp true ts vs ds ps
 | [],_,vs,ds,ps,h,_,_,_=>by
  obtain ⟨rfl,rfl,rfl⟩:=trodAll_nil h
  exact rfl
 | t :: ts,hr,vs,ds,ps,h,hlt,sp,hsp=>by
  obtain ⟨v,vs,d,ds,p,q,rfl,rfl,rfl,h1,h2⟩:=trodAll_cons h
  have hrt:=hr t (by simp)
  exact ⟨p,q,WideElems.Trod_stays hl hrt.1 hrt.2 h1 (fun x hx=>hb.same (hlt x (List.mem_append_left _ hx))) (fun x hx=>hsp x (List.mem_append_left _ hx)),
   zMR hl hb ts (fun t ht=>hr t (List.mem_cons_of_mem _ ht)) vs ds q h2 (fun x hx=>hlt x (List.mem_append_right _ hx)) sp (fun x hx=>hsp x (List.mem_append_right _ hx)),rfl⟩
theorem zMS {f : Func} {s : ChangeSpec} {W W' : World} {args : Array Value} {ds : List (DataW H)} {before : List MemPlace} {tb : TypeId} (hl : laidOutB P = true) (hr : ∀ t ∈ f.params.toList,P.readableRec t = true /\ t < P.types.size)
  (hW : DataW.Whole enc P f.params.toList s.vars false W args.toList ds [] before) (hv : s.vars = []) (hs : s.fn H (ds ++ []) = { results:=[.lit (.bool true)],args:=ds }) (hres : f.resultTypes = #[tb]) (htb : P.underlying tb = some .bool) (hb : Below W.heap.size W W') :
  s.post enc P f false true false false W args (.bool true) W':=by
 have hlt:=hW.lt
 have hW':=hW
 obtain ⟨p,q,hA,hV,rfl,_,_⟩:=hW
 have hq : q = []:=by rw [hv] at hV; exact hV
 subst hq;simp only [List.append_nil] at hlt hW' hs;refine ⟨ds,[],p,[],p,[],hW',?_,?_,?_,World.keptBut_mono (fun x hx=>⟨hx,Or.inr (Or.inl hx)⟩) (hb.frame (· ∈ p)),fun h=>by cases h⟩
 .rw [List.append_nil,hs,hres]
  exact trodAll_mk1 (shut_bool htb true)
 .rw [List.append_nil,hs]
  exact zMR hl hb _ hr _ _ _ hA hlt _ fun x hx=>by simpa using hlt x hx
 .rw [hv,List.append_nil,hs]
  exact rfl
end
section
variable {H : Type} {enc : TypeId × Value -> H} {w : World} {sp : Nat -> Bool}
theorem zP9 : laidOutB Tryz.prog = true:=by kernel_rfl
theorem own : ownKnob Tryz.prog.godebug = none:=by kernel_rfl
theorem zEC : Tryz.prog.cellsOf 33 = 3:=by kernel_rfl
theorem zE0 : Tryz.prog.cellsOf 5 = 1:=by kernel_rfl
theorem zGz : Tryz.prog.cellsOf 3 = 1:=by kernel_rfl
theorem zJ8 : Tryz.prog.cellsOf 2 = 1:=by kernel_rfl
theorem zAI : Tryz.prog.cellsOf 9 = 1:=by kernel_rfl
theorem zLK : Tryz.prog.cellsOf 31 = 1:=by kernel_rfl
theorem zFQ : ∀ N,zEi enc Tryz.prog w sp N 33 3 (TyIn w Any):=by
 intro N
 induction N using Nat.strongRecOn with
 | _ N ih =>
  intro fuel hf f x hx hfr
  obtain ⟨n,hn,hfd⟩:=zA1 Tryz.underlying33 hx hfr
  obtain ⟨y0,a0,b0⟩:=hfd 0 _ rfl 5 0 1 rfl rfl zE0 (by omega)
  obtain ⟨y1,a1,b1⟩:=hfd 1 _ rfl 9 1 1 rfl rfl zAI (by omega)
  obtain ⟨y2,a2,b2⟩:=hfd 2 _ rfl 31 2 1 rfl rfl zLK (by omega)
  obtain ⟨k,k1,k2,k3⟩:=zGC (N:=n) Tryz.underlying5 n (Nat.le_refl _) (fun j=>f (0 + j)) y0 a0 b0
  obtain ⟨s,s1,s2⟩:=zA8 (N:=n) Tryz.underlying9 n (Nat.le_refl _) (fun j=>f (1 + j)) y1 a1 b1
  cases n with
  | zero=>simp [DataW.trod] at a0
  | succ n =>
   obtain ⟨l,hl⟩:=zAV (N:=n) Tryz.underlying31 zEC (by omega) (ih n (by omega)) (n + 1) (Nat.le_refl _) (fun j=>f (2 + j)) y2 a2 b2
   exact ⟨.mk k s l,TyIn.iff.2 ⟨k1,k2,k3,s1,s2,hl⟩⟩
end
end Go.Proofs.YtlclonljdagpkaaGreatDoor
namespace Go.Proofs.YtlclonljdagpkaaGreatDoor
open Go.ChangeShapes Go.WideShapes Go.ChangeAt Go.RowKit
section
variable {H : Type} {enc : TypeId × Value -> H} {w : World} {sp : Nat -> Bool}
theorem zFR : Tryz.prog.cellsOf 40 = 8:=by kernel_rfl
theorem zG0 : Tryz.prog.cellsOf 37 = 2:=by kernel_rfl
theorem zH9 : Tryz.prog.cellsOf 35 = 1:=by kernel_rfl
theorem zG1 : Tryz.prog.cellsOf 38 = 1:=by kernel_rfl
theorem zG2 : ∀ N,zEi enc Tryz.prog w sp N 37 2 (PlIn w Any):=by
 intro N fuel hf f x hx hfr
 obtain ⟨n,hn,hfd⟩:=zA1 Tryz.underlying37 hx hfr
 obtain ⟨y0,a0,b0⟩:=hfd 0 _ rfl 9 0 1 rfl rfl zAI (by omega)
 obtain ⟨y1,a1,b1⟩:=hfd 1 _ rfl 35 1 1 rfl rfl zH9 (by omega)
 obtain ⟨s,s1,s2⟩:=zA8 (N:=n) Tryz.underlying9 n (Nat.le_refl _) (fun j=>f (0 + j)) y0 a0 b0
 cases n with
 | zero=>simp [DataW.trod] at a0
 | succ n =>
  obtain ⟨l,hl⟩:=zAV (N:=n) (R:=zM9) Tryz.underlying35 zAI (by omega) (zA8 (N:=n) Tryz.underlying9) (n + 1) (Nat.le_refl _) (fun j=>f (1 + j)) y1 a1 b1
  exact ⟨⟨s,l⟩,s1,s2,hl⟩
theorem zIA : ∀ N,zEi enc Tryz.prog w sp N 40 8 (ExIn w Any):=by
 intro N
 induction N using Nat.strongRecOn with
 | _ N ih =>
  intro fuel hf f x hx hfr
  obtain ⟨n,hn,hfd⟩:=zA1 Tryz.underlying40 hx hfr
  obtain ⟨y0,a0,b0⟩:=hfd 0 _ rfl 5 0 1 rfl rfl zE0 (by omega)
  obtain ⟨y1,a1,b1⟩:=hfd 1 _ rfl 2 1 1 rfl rfl zJ8 (by omega)
  obtain ⟨y2,a2,b2⟩:=hfd 2 _ rfl 9 2 1 rfl rfl zAI (by omega)
  obtain ⟨y3,a3,b3⟩:=hfd 3 _ rfl 9 3 1 rfl rfl zAI (by omega)
  obtain ⟨y4,a4,b4⟩:=hfd 4 _ rfl 37 4 2 rfl rfl zG0 (by omega)
  obtain ⟨y5,a5,b5⟩:=hfd 5 _ rfl 38 6 1 rfl rfl zG1 (by omega)
  obtain ⟨y6,a6,b6⟩:=hfd 6 _ rfl 3 7 1 rfl rfl zGz (by omega)
  obtain ⟨k,k1,k2,k3⟩:=zGC (N:=n) Tryz.underlying5 n (Nat.le_refl _) (fun j=>f (0 + j)) y0 a0 b0
  obtain ⟨i,i1,i2⟩:=zDq (N:=n) Tryz.underlying2 n (Nat.le_refl _) (fun j=>f (1 + j)) y1 a1 b1
  obtain ⟨s,s1,s2⟩:=zA8 (N:=n) Tryz.underlying9 n (Nat.le_refl _) (fun j=>f (2 + j)) y2 a2 b2
  obtain ⟨r,r1,r2⟩:=zA8 (N:=n) Tryz.underlying9 n (Nat.le_refl _) (fun j=>f (3 + j)) y3 a3 b3
  obtain ⟨x,hx1⟩:=zG2 (enc:=enc) (w:=w) (sp:=sp) n n (Nat.le_refl _) (fun j=>f (4 + j)) y4 a4 b4
  obtain ⟨q,q1,q2⟩:=zDq (N:=n) Tryz.underlying3 n (Nat.le_refl _) (fun j=>f (7 + j)) y6 a6 b6
  cases n with
  | zero=>simp [DataW.trod] at a0
  | succ n =>
   obtain ⟨l,hl⟩:=zAV (N:=n) Tryz.underlying38 zFR (by omega) (ih n (by omega)) (n + 1) (Nat.le_refl _) (fun j=>f (6 + j)) y5 a5 b5
   exact ⟨.mk k i s r x l q,ExIn.iff.2 ⟨⟨k1,⟨k2,k3⟩,i1,i2,s1,s2,r1,r2,hx1,q1,q2⟩,hl⟩⟩
end
theorem zQA {P : Program} {x : String × DataW Unit} {r : List (String × DataW Unit)} {w : World} (h : laidMet P (x :: r) w) : laidMet P r w:=by
 obtain ⟨ps,⟨g',t',cs,fuel,p,q,hg',ht',hvar,hd,hr,rfl⟩,hn,hc⟩:=h
 exact ⟨q,hr,(List.nodup_append.1 hn).2.1,fun b off hm=>hc b off (List.mem_append_right _ hm)⟩
theorem zQB {P : Program} {w : World} {name : String} {g : Nat} {cs : Array Value} (hg : P.globalNamed name = some g) (h : w.var? P name = some cs) : ∃ t fz,w.heap[g]? = some (.cells cs t fz):=by
 unfold World.var? at h;rw [hg] at h;simp only [Option.bind_some] at h;split at h
 .rename_i c t fz hh
  cases h;exact ⟨t,fz,hh⟩
 .cases h
theorem zVj {P : Program} {w : World} {name : String} {g : Nat} {k : IntKind} {zs : List Int} (hg : P.globalNamed name = some g) (h : Lib.TabIs P w name k zs) (hne : zs ≠ []) :
  (zs.map fun z=>Value.int k z) ≠ [] /\ (∀ j x,(zs.map fun z=>Value.int k z)[j]? = some x -> zBf w g j = some x) /\ (∃ t fz,w.heap[g]? = some (.cells (zs.map fun z=>Value.int k z).toArray t fz)) /\ ∀ d i e,get2 ([[]] : Fi2) d i = some e -> e.blk ≠ some g:=by
 obtain ⟨t,fz,hh⟩:=zQB hg h
 refine ⟨by simpa using hne,fun j x hx=>?_,⟨t,fz,hh⟩,fun d i e he=>?_⟩
 .unfold zBf World.cell?
  simp [hh]
  simpa using hx
 .cases d with
  | zero=>simp [get2] at he
  | succ d=>simp [get2] at he
end Go.Proofs.YtlclonljdagpkaaGreatDoor
namespace Go.Proofs.YtlclonljdagpkaaGreatDoor
open Go.ChangeShapes Go.WideShapes Go.ChangeAt Go.RowKit
section
variable {H : Type} {enc : TypeId × Value -> H} {w : World} {sp : Nat -> Bool}
theorem zDR : Tryz.prog.readableRec 24 = true /\ 24 < Tryz.prog.types.size:=⟨by kernel_rfl,of_decide_eq_true (by kernel_rfl)⟩
theorem zED : Tryz.prog.cellsOf 45 = 15:=by kernel_rfl
theorem zQC : Tryz.prog.cellsOf 111 = 3:=by kernel_rfl
theorem zLL : Tryz.prog.cellsOf 55 = 4:=by kernel_rfl
theorem zNf : Tryz.prog.cellsOf 42 = 16:=by kernel_rfl
theorem zE1 : Tryz.prog.cellsOf 24 = 1:=by kernel_rfl
theorem zDF : Tryz.prog.cellsOf 34 = 1:=by kernel_rfl
theorem zNg : Tryz.prog.cellsOf 43 = 1:=by kernel_rfl
theorem zJ9 : Tryz.prog.cellsOf 30 = 1:=by kernel_rfl
theorem zLM : Tryz.prog.cellsOf 22 = 1:=by kernel_rfl
theorem zQD {N : Nat} (ih : ∀ m,m < N -> zEi enc Tryz.prog w sp m 45 15 (StIn w Any)) : ∀ M,M <= N -> zEi enc Tryz.prog w sp M 111 3 (ArIn w Any):=by
 intro M hM fuel hf f x hx hfr
 obtain ⟨n,hn,hfd⟩:=zA1 Tryz.underlying111 hx hfr
 obtain ⟨y0,a0,b0⟩:=hfd 0 _ rfl 9 0 1 rfl rfl zAI (by omega)
 obtain ⟨y1,a1,b1⟩:=hfd 1 _ rfl 9 1 1 rfl rfl zAI (by omega)
 obtain ⟨y2,a2,b2⟩:=hfd 2 _ rfl 34 2 1 rfl rfl zDF (by omega)
 obtain ⟨s,s1,s2⟩:=zA8 (N:=n) Tryz.underlying9 n (Nat.le_refl _) (fun j=>f (0 + j)) y0 a0 b0
 obtain ⟨r,r1,r2⟩:=zA8 (N:=n) Tryz.underlying9 n (Nat.le_refl _) (fun j=>f (1 + j)) y1 a1 b1
 cases n with
 | zero=>simp [DataW.trod] at a0
 | succ n =>
  obtain ⟨l,hl⟩:=zAV (N:=n) Tryz.underlying34 zED (by omega) (ih n (by omega)) (n + 1) (Nat.le_refl _) (fun j=>f (2 + j)) y2 a2 b2
  exact ⟨⟨s,r,l⟩,⟨s1,s2,r1,r2⟩,hl⟩
theorem zNh : ∀ N,zEi enc Tryz.prog w sp N 45 15 (StIn w Any):=by
 intro N
 induction N using Nat.strongRecOn with
 | _ N ih =>
  intro fuel hf f x hx hfr
  obtain ⟨n,hn,hfd⟩:=zA1 Tryz.underlying45 hx hfr
  obtain ⟨y0,a0,b0⟩:=hfd 0 _ rfl 5 0 1 rfl rfl zE0 (by omega)
  obtain ⟨y1,a1,b1⟩:=hfd 1 _ rfl 9 1 1 rfl rfl zAI (by omega)
  obtain ⟨y2,a2,b2⟩:=hfd 2 _ rfl 9 2 1 rfl rfl zAI (by omega)
  obtain ⟨y3,a3,b3⟩:=hfd 3 _ rfl 35 3 1 rfl rfl zH9 (by omega)
  obtain ⟨y4,a4,b4⟩:=hfd 4 _ rfl 33 4 3 rfl rfl zEC (by omega)
  obtain ⟨y5,a5,b5⟩:=hfd 5 _ rfl 2 7 1 rfl rfl zJ8 (by omega)
  obtain ⟨y6,a6,b6⟩:=hfd 6 _ rfl 37 8 2 rfl rfl zG0 (by omega)
  obtain ⟨y7,a7,b7⟩:=hfd 7 _ rfl 38 10 1 rfl rfl zG1 (by omega)
  obtain ⟨y8,a8,b8⟩:=hfd 8 _ rfl 34 11 1 rfl rfl zDF (by omega)
  obtain ⟨y9,a9,b9⟩:=hfd 9 _ rfl 34 12 1 rfl rfl zDF (by omega)
  obtain ⟨y10,a10,b10⟩:=hfd 10 _ rfl 43 13 1 rfl rfl zNg (by omega)
  obtain ⟨y11,a11,b11⟩:=hfd 11 _ rfl 3 14 1 rfl rfl zGz (by omega)
  obtain ⟨k,k1,k2,k3⟩:=zGC (N:=n) Tryz.underlying5 n (Nat.le_refl _) (fun j=>f (0 + j)) y0 a0 b0
  obtain ⟨s,s1,s2⟩:=zA8 (N:=n) Tryz.underlying9 n (Nat.le_refl _) (fun j=>f (1 + j)) y1 a1 b1
  obtain ⟨r,r1,r2⟩:=zA8 (N:=n) Tryz.underlying9 n (Nat.le_refl _) (fun j=>f (2 + j)) y2 a2 b2
  obtain ⟨t,ht⟩:=zFQ (enc:=enc) (w:=w) (sp:=sp) n n (Nat.le_refl _) (fun j=>f (4 + j)) y4 a4 b4
  obtain ⟨i,i1,i2⟩:=zDq (N:=n) Tryz.underlying2 n (Nat.le_refl _) (fun j=>f (7 + j)) y5 a5 b5
  obtain ⟨pl,hpl⟩:=zG2 (enc:=enc) (w:=w) (sp:=sp) n n (Nat.le_refl _) (fun j=>f (8 + j)) y6 a6 b6
  obtain ⟨q,q1,q2⟩:=zDq (N:=n) Tryz.underlying3 n (Nat.le_refl _) (fun j=>f (14 + j)) y11 a11 b11
  cases n with
  | zero=>simp [DataW.trod] at a0
  | succ n =>
   obtain ⟨nm,hnm⟩:=zAV (N:=n) (R:=zM9) Tryz.underlying35 zAI (by omega) (zA8 (N:=n) Tryz.underlying9) (n + 1) (Nat.le_refl _) (fun j=>f (3 + j)) y3 a3 b3
   obtain ⟨es,hes⟩:=zAV (N:=n) Tryz.underlying38 zFR (by omega) (zIA n) (n + 1) (Nat.le_refl _) (fun j=>f (10 + j)) y7 a7 b7
   obtain ⟨bd,hbd⟩:=zAV (N:=n) Tryz.underlying34 zED (by omega) (ih n (by omega)) (n + 1) (Nat.le_refl _) (fun j=>f (11 + j)) y8 a8 b8
   obtain ⟨el,hel⟩:=zAV (N:=n) Tryz.underlying34 zED (by omega) (ih n (by omega)) (n + 1) (Nat.le_refl _) (fun j=>f (12 + j)) y9 a9 b9
   obtain ⟨ar,har⟩:=zAV (N:=n) Tryz.underlying43 zQC (by omega) (zQD (fun m hm=>ih m (by omega)) n (Nat.le_refl _)) (n + 1) (Nat.le_refl _) (fun j=>f (13 + j)) y10 a10 b10
   exact ⟨.mk k s r nm t i pl es bd el ar q,StIn.iff.2 ⟨⟨k1,⟨k2,k3⟩,s1,s2,r1,r2,hnm,ht,i1,i2,hpl,hes,q1,q2⟩,hbd,hel,har⟩⟩
theorem zLN : ∀ N,zEi enc Tryz.prog w sp N 55 4 (FiIn w Any):=by
 intro N fuel hf f x hx hfr
 obtain ⟨n,hn,hfd⟩:=zA1 Tryz.underlying55 hx hfr
 obtain ⟨y0,a0,b0⟩:=hfd 0 _ rfl 9 0 1 rfl rfl zAI (by omega)
 obtain ⟨y1,a1,b1⟩:=hfd 1 _ rfl 33 1 3 rfl rfl zEC (by omega)
 obtain ⟨s,s1,s2⟩:=zA8 (N:=n) Tryz.underlying9 n (Nat.le_refl _) (fun j=>f (0 + j)) y0 a0 b0
 obtain ⟨t,ht⟩:=zFQ (enc:=enc) (w:=w) (sp:=sp) n n (Nat.le_refl _) (fun j=>f (1 + j)) y1 a1 b1
 exact ⟨⟨s,t⟩,s1,s2,ht⟩
theorem zNi : ∀ N,zEi enc Tryz.prog w sp N 42 16 (ItIn w Any):=by
 intro N fuel hf f x hx hfr
 obtain ⟨n,hn,hfd⟩:=zA1 Tryz.underlying42 hx hfr
 obtain ⟨y0,a0,b0⟩:=hfd 0 _ rfl 5 0 1 rfl rfl zE0 (by omega)
 obtain ⟨y1,a1,b1⟩:=hfd 1 _ rfl 9 1 1 rfl rfl zAI (by omega)
 obtain ⟨y2,a2,b2⟩:=hfd 2 _ rfl 30 2 1 rfl rfl zJ9 (by omega)
 obtain ⟨y3,a3,b3⟩:=hfd 3 _ rfl 33 3 3 rfl rfl zEC (by omega)
 obtain ⟨y4,a4,b4⟩:=hfd 4 _ rfl 34 6 1 rfl rfl zDF (by omega)
 obtain ⟨y5,a5,b5⟩:=hfd 5 _ rfl 40 7 8 rfl rfl zFR (by omega)
 obtain ⟨y6,a6,b6⟩:=hfd 6 _ rfl 3 15 1 rfl rfl zGz (by omega)
 obtain ⟨k,k1,k2,k3⟩:=zGC (N:=n) Tryz.underlying5 n (Nat.le_refl _) (fun j=>f (0 + j)) y0 a0 b0
 obtain ⟨s,s1,s2⟩:=zA8 (N:=n) Tryz.underlying9 n (Nat.le_refl _) (fun j=>f (1 + j)) y1 a1 b1
 obtain ⟨t,ht⟩:=zFQ (enc:=enc) (w:=w) (sp:=sp) n n (Nat.le_refl _) (fun j=>f (3 + j)) y3 a3 b3
 obtain ⟨e,he⟩:=zIA (enc:=enc) (w:=w) (sp:=sp) n n (Nat.le_refl _) (fun j=>f (7 + j)) y5 a5 b5
 obtain ⟨q,q1,q2⟩:=zDq (N:=n) Tryz.underlying3 n (Nat.le_refl _) (fun j=>f (15 + j)) y6 a6 b6
 cases n with
 | zero=>simp [DataW.trod] at a0
 | succ n =>
  obtain ⟨fs,hfs⟩:=zAV (N:=n) Tryz.underlying30 zLL (by omega) (zLN n) (n + 1) (Nat.le_refl _) (fun j=>f (2 + j)) y2 a2 b2
  obtain ⟨bd,hbd⟩:=zAV (N:=n) Tryz.underlying34 zED (by omega) (zNh n) (n + 1) (Nat.le_refl _) (fun j=>f (6 + j)) y4 a4 b4
  exact ⟨⟨k,s,fs,t,bd,e,q⟩,k1,⟨k2,k3⟩,s1,s2,hfs,ht,hbd,he,q1,q2⟩
theorem zE2 : ∀ N,zEi enc Tryz.prog w sp N 24 1 (fun p f=>PrIn w Any p (f 0)):=by
 intro N fuel hf f x hx hfr
 obtain ⟨n,hn,hfd⟩:=zA1 Tryz.underlying24 hx hfr
 obtain ⟨y0,a0,b0⟩:=hfd 0 _ rfl 22 0 1 rfl rfl zLM (by omega)
 cases n with
 | zero=>simp [DataW.trod] at a0
 | succ n =>
  obtain ⟨l,hl⟩:=zAV (N:=n) Tryz.underlying22 zNf (by omega) (zNi n) (n + 1) (Nat.le_refl _) (fun j=>f (0 + j)) y0 a0 b0
  exact ⟨l,hl⟩
end
end Go.Proofs.YtlclonljdagpkaaGreatDoor
