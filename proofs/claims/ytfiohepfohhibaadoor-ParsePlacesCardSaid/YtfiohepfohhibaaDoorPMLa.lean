/- A part of the proof. The statement is proved in the claim's last text. -/
import Derived.Test.YtfiohepfohhibaaDoorPMLk
import Derived.Laws.BytesArg
import Derived.MapKept
import Derived.Carry
import Derived.Deep.LoopGhost
import Derived.Scope
set_option linter.unusedVariables false
set_option linter.unusedSimpArgs false
set_option maxRecDepth 100000
set_option maxHeartbeats 32000000
namespace Go.Proofs.YtfiohepfohhibaaDoor
open Go.RowKit
def keyOk : TypeDesc → Value → Bool
 | .int _,.int _ _=>true
 | .string,.string _=>true
 | .bool,.bool _=>true
 | _,_=>false
def keyS (P : Program) (kt : TypeId) : Option (TypeDesc × TypeDesc) :=
 match P.underlying kt with
 | some (.struct fs) =>
  match fs.toList with
  | [f0,f1] =>
   match P.underlying f0.type,P.underlying f1.type with
   | some d0,some d1=>if f0.name ≠ "_" ∧ f1.name ≠ "_" ∧ f0.offset = 0 ∧ f1.offset = 1 ∧ P.stoodInHeld kt = false then some (d0,d1) else none
   | _,_=>none
  | _=>none
 | _=>none
theorem keyS_spec {P : Program} {kt : TypeId} {d0 d1 : TypeDesc} (h : keyS P kt = some (d0,d1)) : ∃ f0 f1 : Field,P.underlying kt = some (.struct #[f0,f1]) ∧ P.underlying f0.type = some d0 ∧ P.underlying f1.type = some d1 ∧ f0.name ≠ "_" ∧ f1.name ≠ "_" ∧ f0.offset = 0 ∧ f1.offset = 1 ∧ P.stoodInHeld kt = false:=by
 unfold keyS at h
 split at h
 ·rename_i fs hu
  split at h
  ·rename_i f0 f1 hl
   split at h
   ·rename_i e0 e1 h0 h1
    split at h
    ·rename_i hc
     cases h
     have hfs : fs = #[f0,f1]:=by
      apply Array.ext'
      rw [hl]
     subst hfs
     exact ⟨f0,f1,hu,h0,h1,hc⟩
    ·cases h
   ·cases h
  ·cases h
 ·cases h
section
variable {P : Program} {kt : TypeId} {d0 d1 : TypeDesc}
theorem part_key {t : TypeId} {d : TypeDesc} {cs : Array Value} {off : Nat} {v : Value} (hu : P.underlying t = some d) (hk : keyOk d v = true) (hx : cs[off]? = some v) (w : World) : (part t cs off).run P w = .ok v w:=by
 unfold keyOk at hk
 split at hk <;> first | (simp [part,isAgg,run_underlying hu,hx]; done) | cases hk
theorem checkKey_at {t : TypeId} {d : TypeDesc} {v : Value} (hu : P.underlying t = some d) (hk : keyOk d v = true) (em : Bool) (n : Nat) (w : World) : (Instr.checkKey em (n + 1) t v).run P w = .ok () w:=by
 rw [Instr.checkKey]
 unfold keyOk at hk
 split at hk <;> first | (simp [run_underlying hu]; done) | cases hk
theorem checkKey2_run {a b : Value} (h : keyS P kt = some (d0,d1)) (ha : keyOk d0 a = true) (hb : keyOk d1 b = true) (em : Bool) (w : World) : (Instr.checkKey em 10000 kt (.agg #[a,b])).run P w = .ok () w:=by
 obtain ⟨f0,f1,hu,h0,h1,n0,n1,o0,o1,hs⟩:=keyS_spec h
 rw [show (10000 : Nat) = 9998 + 1 + 1 from rfl,Instr.checkKey]
 have p0:=fun w=>part_key (cs:=#[a,b]) (off:=0) h0 ha rfl w
 have p1:=fun w=>part_key (cs:=#[a,b]) (off:=1) h1 hb rfl w
 have c0:=fun w=>checkKey_at h0 ha em 9998 w
 have c1:=fun w=>checkKey_at h1 hb em 9998 w
 simp [run_underlying hu,n0,n1,o0,o1,p0,p1,c0,c1]
theorem equal_at {t : TypeId} {d : TypeDesc} {a c : Value} {x : Bool} (hu : P.underlying t = some d) (hk : keyOk d a = true) (h : Instr.sameNow d a c = some x) (n : Nat) (w : World) : (Op.equalIn (n + 1) t a c).run P w = .ok x w:=by
 rw [Op.equalIn]
 unfold keyOk at hk
 split at hk
 ·cases c <;> simp [Instr.sameNow] at h
  obtain ⟨rfl,h⟩:=h
  subst h
  simp [run_underlying hu]
 ·cases c <;> simp [Instr.sameNow] at h
  subst h
  simp [run_underlying hu]
 ·cases c <;> simp [Instr.sameNow] at h
  subst h
  simp [run_underlying hu]
 ·cases hk
theorem sameNow_ok {d : TypeDesc} {a c : Value} {x : Bool} (hk : keyOk d a = true) (h : Instr.sameNow d a c = some x) : keyOk d c = true:=by
 unfold keyOk at hk
 split at hk <;> first | (cases c <;> simp [Instr.sameNow] at h <;> rfl) | cases hk
theorem equal2_run {a b c d : Value} {x y : Bool} (h : keyS P kt = some (d0,d1)) (ha : keyOk d0 a = true) (hb : keyOk d1 b = true) (hx : Instr.sameNow d0 a c = some x) (hy : Instr.sameNow d1 b d = some y) (w : World) : (Op.equal kt (.agg #[a,b]) (.agg #[c,d])).run P w = .ok (x && y) w:=by
 obtain ⟨f0,f1,hu,h0,h1,n0,n1,o0,o1,hs⟩:=keyS_spec h
 unfold Op.equal
 rw [show Op.maxDepth = 9998 + 1 + 1 from rfl,Op.equalIn]
 have p0:=fun w=>part_key (cs:=#[a,b]) (off:=0) h0 ha rfl w
 have p1:=fun w=>part_key (cs:=#[a,b]) (off:=1) h1 hb rfl w
 have q0:=fun w=>part_key (cs:=#[c,d]) (off:=0) h0 (sameNow_ok ha hx) rfl w
 have q1:=fun w=>part_key (cs:=#[c,d]) (off:=1) h1 (sameNow_ok hb hy) rfl w
 have c0:=fun w=>equal_at h0 ha hx 9998 w
 have c1:=fun w=>equal_at h1 hb hy 9998 w
 cases x <;> cases y <;> simp [run_underlying hu,hs,n0,n1,o0,o1,p0,p1,q0,q1,c0,c1]
end
end Go.Proofs.YtfiohepfohhibaaDoor
namespace Go.Proofs.YtfiohepfohhibaaDoor
open Go.RowKit
def bytesOf : List (List PV) → Option (List UInt8)
 | []=>some []
 | [.v (.int .u8 n)] :: rs=>if 0 ≤ n ∧ n < 256 then (bytesOf rs).map fun l=>UInt8.ofNat n.toNat :: l else none
 | _=>none
def convA (P : Program) (src dst : TypeId) (v : AV) : Option AV :=
 match P.underlying src,P.underlying dst with
 | some (.slice e),some .string =>
  match P.underlying e with
  | some (.int .u8) =>
   match v with
   | .p (.sl k rows)=>if k = 1 then (bytesOf rows).map fun l=>.p (.v (.string ⟨l.toArray⟩)) else none
   | .osl k rows _ _=>if k = 1 then (bytesOf rows).map fun l=>.p (.v (.string ⟨l.toArray⟩)) else none
   | .p (.v (.slice none 0 0))=>some (.p (.v (.string ⟨#[]⟩)))
   | _=>none
  | _=>none
 | some _,some (.int k) =>
  match v with
  | .p (.v (.int _ n))=>some (.p (.v (.int k (k.wrap n))))
  | _=>none
 | _,_=>none
def mapFind (d : TypeDesc) (k : Value) : List (Value × AV) → Nat → Option (Option (Nat × AV))
 | [],_=>some none
 | (k',v) :: es,i =>
  match Instr.sameNow d k k' with
  | some true=>some (some (i,v))
  | some false=>mapFind d k es (i + 1)
  | none=>none
def mapFind2 (d0 d1 : TypeDesc) (a b : Value) : List (Value × AV) → Nat → Option (Option (Nat × AV))
 | [],_=>some none
 | (.agg cs,v) :: es,i =>
  match cs.toList with
  | [c,d] =>
   match Instr.sameNow d0 a c,Instr.sameNow d1 b d with
   | some x,some y=>if (x && y) = true then some (some (i,v)) else mapFind2 d0 d1 a b es (i + 1)
   | _,_=>none
  | _=>none
 | _ :: _,_=>none
def findA (P : Program) (kt : TypeId) (k : AV) (es : List (Value × AV)) : Option (Value × Option (Nat × AV)) :=
 match P.underlying kt,k with
 | some dk,.p (.v key)=>if keyOk dk key = true then (mapFind dk key es 0).map fun r=>(key,r) else none
 | some _,.agg [.p (.v a),.p (.v b)] =>
  match keyS P kt with
  | some (d0,d1)=>if (keyOk d0 a && keyOk d1 b) = true then (mapFind2 d0 d1 a b es 0).map fun r=>(.agg #[a,b],r) else none
  | none=>none
 | _,_=>none
def zeroV (P : Program) (t : TypeId) : Option AV:=(P.info? t).bind fun i=>i.zero.bind valA
def pairA (ok : Bool) (v : AV) (b : Bool) : AV:=if ok = true then .tup [v,.p (.v (.bool b))] else v
def lookA (P : Program) (T : TypeId) (m k : AV) (ok : Bool) (S : ASt) : Option (AV × Option (Nat × Nat)) :=
 match P.underlying T with
 | some (.map kt et) =>
  match m with
  | .mp d i =>
   match get2 S d i with
   | some (.map es) =>
    match findA P kt k es with
    | some (_,some (_,v))=>some (pairA ok (v.up d) true,some (d,i))
    | some (_,none)=>(zeroV P et).map fun z=>(pairA ok z false,some (d,i))
    | none=>none
   | _=>none
  | _=>none
 | _=>none
def toPs : List AV → Option (List PV)
 | []=>some []
 | c :: cs =>
  match c.toP,toPs cs with
  | some q,some qs=>some (q :: qs)
  | _,_=>none
def rowsOf (k : Nat) (qs : List PV) : Nat → List (List PV)
 | 0=>[]
 | n + 1=>qs.take k :: rowsOf k (qs.drop k) n
def rowA (P : Program) (t : TypeId) (len : Nat) (parts : List (Nat × AV)) : Option AV :=
 match P.underlying t with
 | some (.slice e)=>if P.cellsOf e ≠ 0 ∧ 0 < len ∧ len * P.cellsOf e ≤ 16777216 then
   match zeroA P e with
   | some zs=>if zs.length = P.cellsOf e then
     match fillA (fun i=>some (i * P.cellsOf e,P.cellsOf e)) ((List.range (len * P.cellsOf e)).map fun j=>.p (.v (zs.getD (j % P.cellsOf e) undef))) parts with
     | some cs=>(toPs cs).map fun qs=>.p (.sl (P.cellsOf e) (rowsOf (P.cellsOf e) qs len))
     | none=>none
    else none
   | none=>none
  else none
 | _=>none
def evL (P : Program) (o : Oper) (fr : List AV) (S : ASt) : Option (AV × Option (Nat × Nat)) :=
 match o.op with
 | .load t x =>
  match evA fr x with
  | .ptr d i off =>
   match get2 S d i with
   | some (.cells cs _)=>(partV P t cs off).map fun v=>(v.up d,some (d,i))
   | _=>none
  | .rptr d i n off =>
   match get2 S d i with
   | some (.row _ _ n' cs)=>if n' = n then (partV P t cs off).map fun v=>(v.up d,some (d,i)) else none
   | _=>none
  | .rp cs=>(partV P t (cs.map .p) 0).map fun v=>(v,none)
  | .bx cs=>(partV P t cs 0).map fun v=>(v,none)
  | _=>none
 | .convert src dst x =>
  match convA P src dst (evA fr x) with
  | some v=>some (v,none)
  | none=>(evP P o fr).map fun v=>(v,none)
 | .lookup t m k ok=>lookA P t (evA fr m) (evA fr k) ok S
 | .buildSlice t len parts=>if o.type = 4294967295 then (rowA P t len (parts.toList.map fun q=>(q.1,evA fr q.2))).map fun v=>(v,none) else none
 | _=>none
def isAggD : TypeDesc → Bool
 | .struct _=>true
 | .array _ _=>true
 | _=>false
section
variable {P : Program} {Pr : Prot} {φ : Fi2}
theorem isAgg_run {t : TypeId} {d : TypeDesc} (h : P.underlying t = some d) (w : World) : (isAgg t).run P w = .ok (isAggD d) w:=by
 cases d <;> simp [isAgg,isAggD,run_underlying h]
theorem load_part {t : TypeId} {cs : List AV} {off g o : Nat} {v : AV} {w : World} {xs : Array Value} (hl : cs.length = xs.size) (hc : ∀ (j : Nat) (c : AV) (x : Value),cs[j]? = some c → xs[j]? = some x → RA Pr φ c x)
  (hx : ∀ j x,xs[off + j]? = some x → w.cell? ⟨g,o + j,none⟩ = some x) (h : partV P t cs off = some v) : ∃ y,RA Pr φ v y ∧ (Instr.loadAt t (.pointer (some ⟨g,o,none⟩))).run P w = .ok y w:=by
 have key : ∀ d,P.underlying t = some d → isAggD d = true → P.cellsOf t ≠ 0 ∧ off + P.cellsOf t ≤ cs.length → ∃ y,RA Pr φ (.agg ((cs.drop off).take (P.cellsOf t))) y ∧ (Instr.loadAt t (.pointer (some ⟨g,o,none⟩))).run P w = .ok y w:=by
  intro d ht hd hn
  have hcells : (loadCells ⟨g,o,none⟩ (P.cellsOf t)).run P w = .ok (xs.extract off (off + P.cellsOf t)) w:=by
   have:=run_loadCells_list (P:=P) w ⟨g,o,none⟩ ((xs.toList.drop off).take (P.cellsOf t)) (fun j u hu=>by
    rw [List.getElem?_take] at hu
    split at hu
    ·rw [List.getElem?_drop] at hu
     rw [addN]
     exact hx j u (by simpa using hu)
    ·cases hu)
   have hlen : ((xs.toList.drop off).take (P.cellsOf t)).length = P.cellsOf t:=by simp; omega
   rw [hlen] at this
   rw [this]
   congr 1
   apply Array.ext'
   simp [Array.toList_extract,List.extract_eq_take_drop]
  exact ⟨_,ra_part hl hc hn.2,by simp [Instr.loadAt,Instr.sureAddr,loadVar,isAgg_run ht,hd,run_cellsOf rfl hn.1,hcells]⟩
 unfold partV at h
 split at h
 ·rename_i ht
  split at h
  ·rename_i hn; cases h; exact key _ ht rfl hn
  ·cases h
 ·rename_i ht
  split at h
  ·rename_i hn; cases h; exact key _ ht rfl hn
  ·cases h
 ·rename_i d h1 h2 ht
  have hlt : off < xs.size:=by have:=(List.getElem?_eq_some_iff.1 h).1; omega
  have hxo : xs[off]? = some xs[off]:=Array.getElem?_eq_getElem hlt
  have hcell : w.cell? ⟨g,o,none⟩ = some xs[off]:=hx 0 _ hxo
  refine ⟨xs[off],hc off v _ h hxo,?_⟩
  have : isAggD d = false:=by
   cases d <;> first | rfl | exact absurd rfl (h1 _) | exact absurd rfl (h2 _ _)
  simp [Instr.loadAt,Instr.sureAddr,loadVar,isAgg_run ht,this,hcell]
 ·cases h
theorem bytesOf_at : ∀ {rows : List (List PV)} {l : List UInt8},bytesOf rows = some l → l.length = rows.length ∧ ∀ (j : Nat) (b : UInt8),l[j]? = some b → rows[j]? = some [.v (.int .u8 b.toNat)]
 | [],l,h=>by simp [bytesOf] at h; subst h; exact ⟨rfl,fun j b h=>by simp at h⟩
 | r :: rs,l,h=>by
  unfold bytesOf at h
  split at h
  ·rename_i e; cases e
  ·rename_i n rs' e
   cases e
   split at h
   ·rename_i hn
    obtain ⟨l',h1,rfl⟩:=Option.map_eq_some_iff.1 h
    obtain ⟨h2,h3⟩:=bytesOf_at h1
    refine ⟨by simp [h2],fun j b hb=>?_⟩
    cases j with
    | zero =>
     simp at hb
     subst hb
     have : (UInt8.ofNat n.toNat).toNat = n.toNat:=by simp; omega
     simp only [List.getElem?_cons_zero,this,Option.some.injEq,List.cons.injEq,PV.v.injEq,Value.int.injEq,true_and,and_true]
     omega
    | succ j=>simpa using h3 j b (by simpa using hb)
   ·cases h
  ·cases h
theorem convA_ok {src dst : TypeId} {v v' : AV} {x : Value} {S : ASt} {w : World} (h : RA Pr φ v x) (hR : Rel Pr φ S w) (hv : convA P src dst v = some v') : ∃ y,RA Pr φ v' y ∧ (convert src dst x).run P w = .ok y w:=by
 have key : ∀ (e : TypeId) (rows : List (List PV)) (l : List UInt8),P.underlying src = some (.slice e) → P.underlying dst = some .string → P.underlying e = some (.int .u8) → RP Pr (.sl 1 rows) x → bytesOf rows = some l → (convert src dst x).run P w = .ok (.string ⟨l.toArray⟩) w:=by
  intro e rows l hs hd he hx hl
  obtain ⟨h1,h2⟩:=bytesOf_at hl
  generalize hk : (1 : Nat) = k at hx
  cases hx with
  | slemp k A cap _ =>
   simp at h1
   subst h1
   rw [run_convert_bytes_string w src dst e A 0 cap hs he hd]
   cases A with
   | none=>simp [Conv.bytesToString]; rfl
   | some a =>
    rw [run_bytesToString w a 0 cap [] (by simp [loadCells,loadCellsFrom])]
    rfl
  | @sl _ bk off cap _ vs c1 c2 c3 c4 c5 =>
   subst hk
   have hcell : ∀ j (b : UInt8),l[j]? = some b → w.cell? ⟨bk,off + j,none⟩ = some (.int .u8 b.toNat):=fun j b hj=>by
    have hr:=h2 j b hj
    have h4:=c4 j _ 0 _ hr rfl
    have h5:=c5 j _ 0 _ hr rfl
    rw [Nat.mul_one,Nat.add_zero] at h4
    rw [hR.pr _ _ _ h4]
    generalize vs j 0 = z at h5
    cases h5 with
    | v=>rfl
   rw [← h1,run_convert_bytes_arg (P:=P) w src e hs he bk off l.length cap (l.map fun b=>(b.toNat : Int)) (by simp) (fun i hi=>by
    rw [hcell i l[i] (List.getElem?_eq_getElem hi)]
    simp [List.getD,hi]) dst hd]
   congr 2
   apply ByteArray.ext
   apply Array.ext'
   rw [strOfNums_data,List.map_map]
   conv=>rhs; rw [show (⟨l.toArray⟩ : ByteArray).data.toList = l from rfl,← List.map_id l]
   apply List.map_congr_left
   intro b _
   simp
 unfold convA at hv
 split at hv
 ·rename_i e hs hd
  split at hv
  ·rename_i he
   split at hv
   ·rename_i k rows
    split at hv
    ·rename_i hk
     subst hk
     obtain ⟨l,hl,rfl⟩:=Option.map_eq_some_iff.1 hv
     cases h with
     | p h=>exact ⟨_,.p (.v rfl),key e rows l hs hd he h hl⟩
    ·cases hv
   ·rename_i k rows d i
    split at hv
    ·rename_i hk
     subst hk
     obtain ⟨l,hl,rfl⟩:=Option.map_eq_some_iff.1 hv
     exact ⟨_,.p (.v rfl),key e rows l hs hd he h.sl hl⟩
    ·cases hv
   ·cases hv
    have:=atomAV_ok h rfl
    subst this
    exact ⟨_,.p (.v rfl),run_convert_bytes_nil w src e hs he 0 0 dst hd⟩
   ·cases hv
  ·cases hv
 ·rename_i d0 k hs hd
  split at hv
  ·rename_i k0 n
   cases hv
   have:=atomAV_ok h rfl
   subst this
   exact ⟨_,.p (.v rfl),by simp [convert,run_underlying hs,run_underlying hd,Conv.intToInt]⟩
  ·cases hv
 ·cases hv
theorem checkKey_run {kt : TypeId} {dk : TypeDesc} {key : Value} (hk : P.underlying kt = some dk) (h : keyOk dk key = true) (em : Bool) (w : World) : (Instr.checkKey em 10000 kt key).run P w = .ok () w:=checkKey_at hk h em 9999 w
theorem sameBits_of {dk : TypeDesc} {key k' : Value} (n : Nat) (h : keyOk dk key = true) (hs : Instr.sameNow dk key k' = some true) : Instr.sameBits n k' key = true:=by
 unfold keyOk at h
 split at h
 ·cases k' <;> simp [Instr.sameNow] at hs
  rename_i k a j b
  obtain ⟨rfl,rfl⟩:=hs
  simp [Instr.sameBits]
 ·cases k' <;> simp only [Instr.sameNow,Option.some.injEq,reduceCtorEq] at hs
  rename_i p q
  obtain ⟨a⟩:=p
  obtain ⟨b⟩:=q
  change (a == b) = true at hs
  have:=eq_of_beq hs
  subst this
  simp only [Instr.sameBits]
  show (a == a) = true
  simp
 ·cases k' <;> simp only [Instr.sameNow,Option.some.injEq,reduceCtorEq] at hs
  simp [Instr.sameBits,eq_of_beq hs]
 ·cases h
theorem mapFind_run {Pr : Prot} {φ : Fi2} {dk : TypeDesc} {key : Value} : ∀ (es : List (Value × AV)) (ents : List MapEntry) (i : Nat) (r : Option (Nat × AV)),es.length = ents.length →
  (∀ (j : Nat) (kv : Value × AV) (en : MapEntry),es[j]? = some kv → ents[j]? = some en → en.key = kv.1 ∧ RA Pr φ kv.2 en.val) → mapFind dk key es i = some r →
  (r = none ∧ Instr.findNow dk key ents i = some none) ∨ ∃ j v x,r = some (i + j,v) ∧ Instr.findNow dk key ents i = some (some (i + j,x)) ∧ RA Pr φ v x ∧ ∃ kv en,es[j]? = some kv ∧ ents[j]? = some en ∧ kv.2 = v ∧ en.val = x ∧ Instr.sameNow dk key kv.1 = some true
 | [],[],i,r,_,_,h=>by simp [mapFind] at h; subst h; exact .inl ⟨rfl,rfl⟩
 | (k',v) :: es,en :: ents,i,r,hl,hc,h=>by
  obtain ⟨h1,h2⟩:=hc 0 _ _ rfl rfl
  simp only at h1 h2
  simp only [mapFind] at h
  simp only [Instr.findNow,h1]
  split at h
  ·rename_i hs
   cases h
   rw [hs]
   exact .inr ⟨0,v,en.val,rfl,rfl,h2,_,en,rfl,rfl,rfl,rfl,hs⟩
  ·rename_i hs
   rw [hs]
   rcases mapFind_run es ents (i + 1) r (by simpa using hl) (fun j kv en a b=>hc (j + 1) kv en (by simpa using a) (by simpa using b)) h with ⟨h3,h4⟩ | ⟨j,v',x,h3,h4,h5,kv,en',h6,h7,h8⟩
   ·exact .inl ⟨h3,h4⟩
   ·refine .inr ⟨j + 1,v',x,?_,?_,h5,kv,en',by simpa using h6,by simpa using h7,h8⟩
    ·rw [h3,show i + (j + 1) = i + 1 + j by omega]
    ·rw [h4,show i + (j + 1) = i + 1 + j by omega]
  ·cases h
 | [],_ :: _,i,r,hl,_,_=>by simp at hl
 | _ :: _,[],i,r,hl,_,_=>by simp at hl
theorem findKey_run {kt : TypeId} {dk : TypeDesc} {key : Value} {es : List MapEntry} {r : Option (Nat × Value)} (hk : P.underlying kt = some dk) (h : Instr.findNow dk key es 0 = some r) (w : World) : (Instr.findKey kt key es).run P w = .ok r w:=by
 simp [Instr.findKey,run_underlying hk,h]
theorem zeroV_ok {Pr : Prot} {φ : Fi2} {t : TypeId} {v : AV} (h : zeroV P t = some v) : ∃ z,RA Pr φ v z ∧ ∀ w,(zeroValue t).run P w = .ok z w:=by
 unfold zeroV at h
 obtain ⟨i,hi,h⟩:=Option.bind_eq_some_iff.1 h
 obtain ⟨z,hz,h⟩:=Option.bind_eq_some_iff.1 h
 exact ⟨z,valA_ok h,fun w=>by simp [zeroValue,typeInfo,hi,hz]⟩
theorem mapFind2_run {Pr : Prot} {φ : Fi2} {kt : TypeId} {d0 d1 : TypeDesc} {a b : Value} (hS : keyS P kt = some (d0,d1)) (ha : keyOk d0 a = true) (hb : keyOk d1 b = true) : ∀ (es : List (Value × AV)) (ents : List MapEntry) (i : Nat) (r : Option (Nat × AV)),es.length = ents.length →
  (∀ (j : Nat) (kv : Value × AV) (en : MapEntry),es[j]? = some kv → ents[j]? = some en → en.key = kv.1 ∧ RA Pr φ kv.2 en.val) → mapFind2 d0 d1 a b es i = some r →
  (r = none ∧ ∀ w,(Instr.findAsking kt (.agg #[a,b]) ents i).run P w = .ok none w) ∨ ∃ j v x,r = some (i + j,v) ∧ (∀ w,(Instr.findAsking kt (.agg #[a,b]) ents i).run P w = .ok (some (i + j,x)) w) ∧ RA Pr φ v x ∧ ∃ kv en,es[j]? = some kv ∧ ents[j]? = some en ∧ kv.2 = v ∧ en.val = x ∧ Instr.sameBits 10000 kv.1 (.agg #[a,b]) = true
 | [],[],i,r,_,_,h=>by simp [mapFind2] at h; subst h; exact .inl ⟨rfl,fun w=>by simp [Instr.findAsking]⟩
 | (k',v) :: es,en :: ents,i,r,hl,hc,h=>by
  obtain ⟨h1,h2⟩:=hc 0 _ _ rfl rfl
  simp only at h1 h2
  cases k' with
  | agg cs =>
   simp only [mapFind2] at h
   split at h
   ·rename_i c d hcs
    have hcs' : cs = #[c,d]:=by
     apply Array.ext'
     rw [hcs]
    subst hcs'
    split at h
    ·rename_i x y hx hy
     have he:=fun w=>equal2_run (P:=P) hS ha hb hx hy w
     split at h
     ·rename_i hxy
      cases h
      simp only [Bool.and_eq_true] at hxy
      obtain ⟨rfl,rfl⟩:=hxy
      have b0:=sameBits_of 9999 ha hx
      have b1:=sameBits_of 9999 hb hy
      refine .inr ⟨0,v,en.val,rfl,fun w=>by simp [Instr.findAsking,h1,he],h2,_,en,rfl,rfl,rfl,rfl,?_⟩
      show Instr.sameBits (9999 + 1) _ _ = true
      simp [Instr.sameBits,b0,b1]
     ·rename_i hxy
      have hxy' : (x && y) = false:=by simpa using hxy
      rcases mapFind2_run hS ha hb es ents (i + 1) r (by simpa using hl) (fun j kv en a b=>hc (j + 1) kv en (by simpa using a) (by simpa using b)) h with ⟨h3,h4⟩ | ⟨j,v',x',h3,h4,h5,kv,en',h6,h7,h8⟩
      ·exact .inl ⟨h3,fun w=>by simp [Instr.findAsking,h1,he,hxy',h4]⟩
      ·refine .inr ⟨j + 1,v',x',?_,fun w=>?_,h5,kv,en',by simpa using h6,by simpa using h7,h8⟩
       ·rw [h3,show i + (j + 1) = i + 1 + j by omega]
       ·rw [show i + (j + 1) = i + 1 + j by omega]
        simp [Instr.findAsking,h1,he,hxy',h4]
    ·cases h
   ·cases h
  | _=>simp [mapFind2] at h
 | [],_ :: _,i,r,hl,_,_=>by simp at hl
 | _ :: _,[],i,r,hl,_,_=>by simp at hl
theorem findA_run {Pr : Prot} {φ φ1 : Fi2} {kt : TypeId} {k : AV} {y key : Value} {es : List (Value × AV)} {ents : List MapEntry} {r : Option (Nat × AV)} (hk : RA Pr φ1 k y) (hl : es.length = ents.length)
  (hc : ∀ (j : Nat) (kv : Value × AV) (en : MapEntry),es[j]? = some kv → ents[j]? = some en → en.key = kv.1 ∧ RA Pr φ kv.2 en.val) (h : findA P kt k es = some (key,r)) :
  y = key ∧ (∀ em w,(Instr.checkKey em 10000 kt key).run P w = .ok () w) ∧ ((r = none ∧ ∀ w,(Instr.findKey kt key ents).run P w = .ok none w) ∨ ∃ j v x,r = some (j,v) ∧ (∀ w,(Instr.findKey kt key ents).run P w = .ok (some (j,x)) w) ∧ RA Pr φ v x ∧ ∃ kv en,es[j]? = some kv ∧ ents[j]? = some en ∧ kv.2 = v ∧ en.val = x ∧ Instr.sameBits 10000 kv.1 key = true):=by
 unfold findA at h
 split at h
 ·rename_i dk key' hkt
  split at h
  ·rename_i hko
   obtain ⟨r',hf,he⟩:=Option.map_eq_some_iff.1 h
   cases he
   have hy:=atomAV_ok hk rfl
   subst hy
   refine ⟨rfl,fun em w=>checkKey_run hkt hko em w,?_⟩
   rcases mapFind_run es ents 0 _ hl hc hf with ⟨h3,h4⟩ | ⟨j,v,x,h3,h4,h5,kv,en,h6,h7,h8,h9,h10⟩
   ·exact .inl ⟨h3,fun w=>findKey_run hkt h4 w⟩
   ·rw [Nat.zero_add] at h3 h4
    exact .inr ⟨j,v,x,h3,fun w=>findKey_run hkt h4 w,h5,kv,en,h6,h7,h8,h9,sameBits_of 10000 hko h10⟩
  ·cases h
 ·rename_i dk a b hkt
  split at h
  ·rename_i d0 d1 hS
   split at h
   ·rename_i hko
    simp only [Bool.and_eq_true] at hko
    obtain ⟨r',hf,he⟩:=Option.map_eq_some_iff.1 h
    cases he
    have hy : y = .agg #[a,b]:=by
     cases hk with
     | agg h1 h2 =>
      rename_i xs
      have hsz : xs.size = 2:=by simpa using h1.symm
      have e0 : xs[0] = a:=atomAV_ok (h2 0 (.p (.v a)) xs[0] rfl (Array.getElem?_eq_getElem (by omega))) rfl
      have e1 : xs[1] = b:=atomAV_ok (h2 1 (.p (.v b)) xs[1] rfl (Array.getElem?_eq_getElem (by omega))) rfl
      congr 1
      apply Array.ext (by simp [hsz])
      intro q q1 q2
      have : q = 0 ∨ q = 1:=by simp at q2; omega
      rcases this with rfl | rfl
      ·exact e0
      ·exact e1
    subst hy
    refine ⟨rfl,fun em w=>checkKey2_run hS hko.1 hko.2 em w,?_⟩
    obtain ⟨f0,f1,hu,-⟩:=keyS_spec hS
    have hfk : ∀ w,(Instr.findKey kt (.agg #[a,b]) ents).run P w = (Instr.findAsking kt (.agg #[a,b]) ents 0).run P w:=fun w=>by
     cases ents with
     | nil=>simp [Instr.findKey,run_underlying hu,Instr.findNow,Instr.findAsking]
     | cons en ents=>simp [Instr.findKey,run_underlying hu,Instr.findNow,Instr.sameNow]
    rcases mapFind2_run hS hko.1 hko.2 es ents 0 _ hl hc hf with ⟨h3,h4⟩ | ⟨j,v,x,h3,h4,h5⟩
    ·exact .inl ⟨h3,fun w=>by rw [hfk,h4]⟩
    ·rw [Nat.zero_add] at h3
     simp only [Nat.zero_add] at h4
     exact .inr ⟨j,v,x,h3,fun w=>by rw [hfk,h4],h5⟩
   ·cases h
  ·cases h
 ·cases h
theorem zeroV_okA {Pr : Prot} {t : TypeId} {v : AV} (h : zeroV P t = some v) : ∃ z,(∀ φ,RA Pr φ v z) ∧ ∀ w,(zeroValue t).run P w = .ok z w:=by
 unfold zeroV at h
 obtain ⟨i,hi,h⟩:=Option.bind_eq_some_iff.1 h
 obtain ⟨z,hz,h⟩:=Option.bind_eq_some_iff.1 h
 exact ⟨z,fun φ=>valA_ok h,fun w=>by simp [zeroValue,typeInfo,hi,hz]⟩
theorem lookA_ok {T : TypeId} {m k v : AV} {ok : Bool} {x y : Value} {S : ASt} {w : World} {ref : Option (Nat × Nat)} (hm : RA Pr φ m x) (hk : RA Pr φ k y) (hR : Rel Pr φ S w) (hv : lookA P T m k ok S = some (v,ref)) :
  ∃ z,RA Pr φ v z ∧ (Instr.lookup T x y ok).run P w = .ok z w:=by
 unfold lookA at hv
 split at hv
 ·rename_i kt et hT
  split at hv
  ·rename_i d i
   split at hv
   ·rename_i es hS
    obtain ⟨e,hE,htok,g,ents,clock,hg,hheap,hl,hc,hun,hbn⟩:=hR.obj d i _ hS
    cases hm with
    | mp h1 h2 h3 =>
     rw [hE] at h1; cases h1
     rw [hg] at h3; cases h3
     have hgo : (getObj g).run P w = .ok (.map ents clock) w:=by simp [getObj,Sem.run,hheap]
     split at hv
     ·rename_i key j u hf
      cases hv
      obtain ⟨rfl,hck,hfs⟩:=findA_run (ents:=ents.toList) hk (by rw [Array.length_toList]; exact hl) (fun j kv en a b=>hc j kv en a (by simpa using b)) hf
      rcases hfs with ⟨h3,_⟩ | ⟨j',v',z,h3,h4,h5,_⟩
      ·cases h3
      ·cases h3
       have h6:=h5.up (k:=d)
       cases ok with
       | true=>exact ⟨.tuple #[z,.bool true],.tup rfl (fun j c x hc hx=>by
         match j,hc,hx with
         | 0,hc,hx=>cases hc; cases hx; exact h6
         | 1,hc,hx=>cases hc; cases hx; exact .p (.v rfl)),by simp [Instr.lookup,run_underlying hT,hgo,hck,h4]⟩
       | false=>exact ⟨z,h6,by simp [Instr.lookup,run_underlying hT,hgo,hck,h4]⟩
     ·rename_i key hf
      obtain ⟨z0,hz,hv'⟩:=Option.map_eq_some_iff.1 hv
      cases hv'
      obtain ⟨rfl,hck,hfs⟩:=findA_run (ents:=ents.toList) hk (by rw [Array.length_toList]; exact hl) (fun j kv en a b=>hc j kv en a (by simpa using b)) hf
      rcases hfs with ⟨_,h4⟩ | ⟨j',v',z,h3,_⟩
      ·obtain ⟨z,h6,h7⟩:=zeroV_ok (Pr:=Pr) (φ:=φ) hz
       cases ok with
       | true=>exact ⟨.tuple #[z,.bool false],.tup rfl (fun j c x hc hx=>by
         match j,hc,hx with
         | 0,hc,hx=>cases hc; cases hx; exact h6
         | 1,hc,hx=>cases hc; cases hx; exact .p (.v rfl)),by simp [Instr.lookup,run_underlying hT,hgo,hck,h4,h7]⟩
       | false=>exact ⟨z,h6,by simp [Instr.lookup,run_underlying hT,hgo,hck,h4,h7]⟩
      ·cases h3
     ·cases hv
   ·cases hv
  ·cases hv
 ·cases hv
theorem rowsOf_len (k : Nat) : ∀ (n : Nat) (qs : List PV),(rowsOf k qs n).length = n
 | 0,qs=>rfl
 | n + 1,qs=>by simp [rowsOf,rowsOf_len k n]
theorem rowsOf_get (k : Nat) : ∀ (n : Nat) (qs : List PV) (r : Nat) (row : List PV),(rowsOf k qs n)[r]? = some row → row = (qs.drop (r * k)).take k
 | 0,qs,r,row,h=>by simp [rowsOf] at h
 | n + 1,qs,0,row,h=>by simp [rowsOf] at h; simp [h]
 | n + 1,qs,r + 1,row,h=>by
  have:=rowsOf_get k n (qs.drop k) r row (by simpa [rowsOf] using h)
  rw [this,List.drop_drop]
  congr 2
  rw [Nat.add_mul]; omega
theorem toPs_ok : ∀ {cs : List AV} {qs : List PV} {xs : Array Value},RL Pr φ cs xs → toPs cs = some qs → qs.length = cs.length ∧ ∀ (j : Nat) (q : PV) (x : Value),qs[j]? = some q → xs[j]? = some x → RP Pr q x:=by
 have key : ∀ (cs : List AV) (qs : List PV),toPs cs = some qs → qs.length = cs.length ∧ ∀ (j : Nat) (q : PV),qs[j]? = some q → ∃ c : AV,cs[j]? = some c ∧ c.toP = some q:=by
  intro cs
  induction cs with
  | nil=>intro qs h; simp [toPs] at h; subst h; exact ⟨rfl,fun j q h=>by simp at h⟩
  | cons c cs ih =>
   intro qs h
   simp only [toPs] at h
   split at h
   ·rename_i q1 qs1 h1 h2
    cases h
    obtain ⟨h3,h4⟩:=ih qs1 h2
    refine ⟨by simp [h3],fun j q hq=>?_⟩
    cases j with
    | zero=>simp at hq; subst hq; exact ⟨c,rfl,h1⟩
    | succ j=>simp at hq; simpa using h4 j q hq
   ·cases h
 intro cs qs xs h hq
 obtain ⟨h1,h2⟩:=key cs qs hq
 refine ⟨h1,fun j q x a b=>?_⟩
 obtain ⟨c,h3,h4⟩:=h2 j q a
 exact (h.2 j c x h3 b).toP h4
theorem fillA_len {place : Nat → Option (Nat × Nat)} : ∀ {ps : List (Nat × AV)} {cs cs' : List AV},fillA place cs ps = some cs' → cs'.length = cs.length
 | [],cs,cs',h=>by simp [fillA] at h; rw [h]
 | (i,v) :: ps,cs,cs',h=>by
  simp only [fillA] at h
  split at h
  ·split at h
   ·rw [fillA_len h,setAll_len]
   ·cases h
  ·cases h
theorem rowA_ok {t : TypeId} {len : Nat} {parts : Array (Nat × Operand)} {fr : List AV} {a : Act} {S : ASt} {w : World} {v : AV} (h : RF Pr φ fr a) (hR : Rel Pr φ S w) (hv : rowA P t len (parts.toList.map fun q=>(q.1,evA fr q.2)) = some v) :
  ∃ y w' Pr',(Instr.buildSlice t len (parts.map fun (i,x)=>(i,a.eval x))).run P w = .ok y w' ∧ Stp Pr φ w Pr' φ w' ∧ Rel Pr' φ S w' ∧ RA Pr' φ v y:=by
 unfold rowA at hv
 split at hv
 ·rename_i e ht
  split at hv
  ·rename_i hc
   obtain ⟨hk0,hlen,hbig⟩:=hc
   split at hv
   ·rename_i zs hz
    split at hv
    ·rename_i hzl
     split at hv
     ·rename_i cs hf
      obtain ⟨z,hz1,hz2,hz3⟩:=zeroA_ok hz
      generalize hk : P.cellsOf e = k at *
      have hkp : 0 < k:=Nat.pos_of_ne_zero hk0
      have h0 : RL Pr φ ((List.range (len * k)).map fun j=>.p (.v (zs.getD (j % k) undef))) ((Array.range (len * k)).map fun j=>zs.toArray[j % k]!):=by
       refine ⟨by simp,fun j c x hc hx=>?_⟩
       have hj : j < len * k:=by simpa using (List.getElem?_eq_some_iff.1 hc).1
       have hm : j % k < zs.length:=by rw [hzl]; exact Nat.mod_lt _ hkp
       simp only [List.getElem?_map,List.getElem?_range hj,Option.map_some,Option.some.injEq] at hc
       simp only [Array.getElem?_map,Array.getElem?_range,hj,if_true,Option.map_some,Option.some.injEq] at hx
       subst hc hx
       have e1 : zs.getD (j % k) undef = zs[j % k]:=by simp [hm]
       have e2 : zs.toArray[j % k]! = zs[j % k]:=by simp [hm]
       rw [e1,e2]
       exact .p (.v (List.all_eq_true.1 hz3 _ (List.getElem_mem hm)))
      obtain ⟨xs',h1,h2⟩:=fill_ok _ _ (parts.map fun q=>(q.1,a.eval q.2)).toList _ cs _ h0 (by simp) (fun j p q hp hq=>by
       rw [List.getElem?_map] at hp
       obtain ⟨q0,hq0,rfl⟩:=Option.map_eq_some_iff.1 hp
       have h0' : parts[j]? = some q0:=by simpa using hq0
       rw [Array.getElem?_toList,Array.getElem?_map,h0'] at hq
       cases hq
       exact ⟨rfl,h.ev _⟩) hf
      have hcl : cs.length = len * k:=by rw [fillA_len hf]; simp
      have hb1 : ¬ (16777216 < len * k):=by omega
      have hb2 : ¬ (len * k = 0):=by
       have : 0 < len * k:=Nat.mul_pos hlen hkp
       omega
      have e3 : ((Array.range (len * k)).map fun x=>zs[x % zs.length]?.getD default) = (Array.range (len * k)).map fun j=>zs.toArray[j % k]!:=by rw [hzl]; simp
      obtain ⟨qs,hq,hv⟩:=Option.map_eq_some_iff.1 hv
      cases hv
      obtain ⟨hql,hqr⟩:=toPs_ok h2 hq
      have hrow : ∀ (r : Nat) (row : List PV),(rowsOf k qs len)[r]? = some row → row.length = k ∧ ∀ (j : Nat) (p : PV),row[j]? = some p → qs[r * k + j]? = some p:=fun r row hr=>by
       have hrl : r < len:=by have:=(List.getElem?_eq_some_iff.1 hr).1; rwa [rowsOf_len] at this
       have:=rowsOf_get k len qs r row hr
       subst this
       have hle : (r + 1) * k ≤ len * k:=Nat.mul_le_mul_right _ hrl
       rw [Nat.add_mul] at hle
       refine ⟨by simp; omega,fun j p hp=>?_⟩
       rw [List.getElem?_take] at hp
       split at hp
       ·rwa [List.getElem?_drop] at hp
       ·cases hp
      obtain ⟨Pr',s1,r1,g1,hPr⟩:=rel_row hR (rowsOf k qs len) k xs' e (fun r row hr=>(hrow r row hr).1) (by rw [rowsOf_len]; unfold maxLen; have : len * 1 ≤ len * k:=Nat.mul_le_mul_left _ hkp; omega)
       (fun r row j p hr hp=>by
        have hqj:=(hrow r row hr).2 j p hp
        have hlt : r * k + j < xs'.size:=by have:=(List.getElem?_eq_some_iff.1 hqj).1; have:=h2.1; omega
        exact ⟨xs'[r * k + j],Array.getElem?_eq_getElem hlt,hqr _ p _ hqj (Array.getElem?_eq_getElem hlt)⟩)
      rw [rowsOf_len] at g1
      have hxsz : xs'.size = len * k:=by have:=h2.1; omega
      refine ⟨_,_,Pr',?_,s1,r1,.p g1⟩
      simp [Instr.buildSlice,run_underlying ht,run_cellsOf hk hk0,hb1,hb2,hz1,hz2,newRow,-Array.toList_map]
      rw [e3,h1]
      rfl
     ·cases hv
    ·cases hv
   ·cases hv
  ·cases hv
 ·cases hv
theorem evL_ok0 {o : Oper} {fr : List AV} {a : Act} {S : ASt} {w : World} {v : AV} {ref : Option (Nat × Nat)} (h : RF Pr φ fr a) (hR : Rel Pr φ S w) (hn : ∀ t n p,o.op ≠ .buildSlice t n p) (hv : evL P o fr S = some (v,ref)) : ∃ y,RA Pr φ v y ∧ (execOp a.eval o).run P w = .ok (.value y) w:=by
 unfold evL at hv
 split at hv
 ·rename_i t x ho
  have hx:=h.ev x
  split at hv
  ·rename_i d i off he
   rw [he] at hx
   split at hv
   ·rename_i cs T hS
    obtain ⟨v0,hp,hv'⟩:=Option.map_eq_some_iff.1 hv
    cases hv'
    obtain ⟨e,hE,htok,g,xs,hg,hheap,hl,hc,hun⟩:=hR.obj d i _ hS
    generalize hy : a.eval x = y at hx
    cases hx with
    | ptr h1 h2 h3 =>
     rw [hE] at h1; cases h1
     rw [hg] at h3; cases h3
     obtain ⟨z,k1,k2⟩:=load_part (w:=w) (g:=g) (o:=off) hl hc (fun j x hx=>by rw [cell_blk hheap]; exact hx) hp
     exact ⟨z,k1.up,by simp [execOp,ho,hy,k2]⟩
   ·cases hv
  ·rename_i d i n off he
   rw [he] at hx
   split at hv
   ·rename_i E k n' cs hS
    split at hv
    ·rename_i hnn
     subst hnn
     obtain ⟨v0,hp,hv'⟩:=Option.map_eq_some_iff.1 hv
     cases hv'
     obtain ⟨e,hE,htok,hen,hek,hk0,hcl,hrest⟩:=hR.obj d i _ hS
     generalize hy : a.eval x = y at hx
     cases hx with
     | @rptr _ _ _ _ g0 _ h1 h2 h3 h4 =>
      rw [hE] at h1; cases h1
      have hblk:=h4 hen.symm
      obtain ⟨_,hnb⟩ | ⟨g,xs,hg,hheap,hsz,hn0,hnc,hcm,hc,hun⟩:=hrest
      ·rw [hblk] at hnb; cases hnb
      rw [hblk] at hg; cases hg
      have hle : cs.length ≤ xs.size:=by rw [hcl,hsz]; exact Nat.mul_le_mul_right _ hnc
      have hl2 : cs.length = (xs.extract 0 cs.length).size:=by simp; omega
      have hget : ∀ j y,(xs.extract 0 cs.length)[j]? = some y → xs[j]? = some y:=fun j y hj=>by
       rw [Array.getElem?_extract] at hj
       split at hj
       ·simpa using hj
       ·cases hj
      obtain ⟨z,k1,k2⟩:=load_part (w:=w) (g:=g0) (o:=off) hl2 (fun j c y a b=>hc j c y a (hget j y b)) (fun j x hx=>by rw [cell_blk hheap]; exact hget _ _ hx) hp
      exact ⟨z,k1.up,by simp [execOp,ho,hy,k2]⟩
    ·cases hv
   ·cases hv
  ·rename_i cells he
   rw [he] at hx
   obtain ⟨v0,hp,hv'⟩:=Option.map_eq_some_iff.1 hv
   cases hv'
   generalize hy : a.eval x = y at hx
   cases hx with
   | @rp _ b off vs h1 h2 =>
    have hl : (cells.map AV.p).length = ((List.range cells.length).map vs).toArray.size:=by simp
    obtain ⟨z,k1,k2⟩:=load_part (P:=P) (Pr:=Pr) (φ:=φ) (w:=w) (g:=b) (o:=off) (off:=0) (xs:=((List.range cells.length).map vs).toArray) hl (fun j c x hc hx=>by
      rw [List.getElem?_map] at hc
      obtain ⟨q,hq,rfl⟩:=Option.map_eq_some_iff.1 hc
      have hj:=(List.getElem?_eq_some_iff.1 hq).1
      rw [List.getElem?_toArray,range_get _ hj] at hx
      cases hx
      exact .p (h2 j q hq)) (fun j x hx=>by
      rw [Nat.zero_add,List.getElem?_toArray] at hx
      have hj : j < cells.length:=by simpa using (List.getElem?_eq_some_iff.1 hx).1
      rw [range_get _ hj] at hx
      cases hx
      exact hR.pr _ _ _ (h1 j cells[j] (List.getElem?_eq_getElem hj))) hp
    exact ⟨z,k1,by simp [execOp,ho,hy,k2]⟩
  ·rename_i cells he
   rw [he] at hx
   obtain ⟨v0,hp,hv'⟩:=Option.map_eq_some_iff.1 hv
   cases hv'
   generalize hy : a.eval x = y at hx
   cases hx with
   | @bx _ b off vs h1 h2 =>
    have hl : cells.length = ((List.range cells.length).map vs).toArray.size:=by simp
    obtain ⟨z,k1,k2⟩:=load_part (P:=P) (Pr:=Pr) (φ:=φ) (w:=w) (g:=b) (o:=off) (off:=0) (xs:=((List.range cells.length).map vs).toArray) hl (fun j c x hc hx=>by
      have hj:=(List.getElem?_eq_some_iff.1 hc).1
      rw [List.getElem?_toArray,range_get _ hj] at hx
      cases hx
      exact h2 j c hc) (fun j x hx=>by
      rw [Nat.zero_add,List.getElem?_toArray] at hx
      have hj : j < cells.length:=by simpa using (List.getElem?_eq_some_iff.1 hx).1
      rw [range_get _ hj] at hx
      cases hx
      exact hR.pr _ _ _ (h1 j cells[j] (List.getElem?_eq_getElem hj))) hp
    exact ⟨z,k1,by simp [execOp,ho,hy,k2]⟩
  ·cases hv
 ·rename_i src dst x ho
  split at hv
  ·rename_i v0 hc
   cases hv
   obtain ⟨y,h1,h2⟩:=convA_ok (S:=S) (h.ev x) hR hc
   exact ⟨y,h1,by simp [execOp,ho,h2]⟩
  ·obtain ⟨v0,h1,h2⟩:=Option.map_eq_some_iff.1 hv
   cases h2
   obtain ⟨y,h3,h4⟩:=evP_ok (P:=P) h h1
   exact ⟨y,h3,h4 w⟩
 ·rename_i t m k ok ho
  obtain ⟨y,h1,h2⟩:=lookA_ok (P:=P) (h.ev m) (h.ev k) hR hv
  exact ⟨y,h1,by simp [execOp,ho,h2]⟩
 ·rename_i t n p ho
  exact absurd ho (hn _ _ _)
 ·cases hv
theorem evL_ok {o : Oper} {fr : List AV} {a : Act} {S : ASt} {w : World} {v : AV} {ref : Option (Nat × Nat)} (h : RF Pr φ fr a) (hR : Rel Pr φ S w) (hv : evL P o fr S = some (v,ref)) :
  ∃ y w' Pr',(execOp a.eval o).run P w = .ok (.value y) w' ∧ Stp Pr φ w Pr' φ w' ∧ Rel Pr' φ S w' ∧ RA Pr' φ v y:=by
 by_cases hb : ∃ t n p,o.op = .buildSlice t n p
 ·obtain ⟨t,n,p,ho⟩:=hb
  unfold evL at hv
  rw [ho] at hv
  simp only at hv
  split at hv
  ·obtain ⟨v0,h1,h2⟩:=Option.map_eq_some_iff.1 hv
   cases h2
   obtain ⟨y,w',Pr',k1,k2,k3,k4⟩:=rowA_ok (P:=P) h hR h1
   exact ⟨y,w',Pr',by simp only [execOp,ho,Sem.run_bind,k1,Result.andThen_ok,Sem.run_pure],k2,k3,k4⟩
  ·cases hv
 ·obtain ⟨y,h1,h2⟩:=evL_ok0 (P:=P) h hR (fun t n p e=>hb ⟨t,n,p,e⟩) hv
  exact ⟨y,w,Pr,h2,Stp.refl _ _ _,hR,h1⟩
def Ch (P : Program) (Pr : Prot) (φ : Fi2) (o : Oper) (a : Act) (w : World) (v : AV) (S' : ASt) : Prop :=
 ∃ x w' Pr' φ',((execOp a.eval o).run P w = .ok (.value x) w' ∨ ((execOp a.eval o).run P w = .ok .skip w' ∧ x = undef)) ∧ Stp Pr φ w Pr' φ' w' ∧ Rel Pr' φ' S' w' ∧ RA Pr' φ' v x
def cellsB : AV → Option (List AV)
 | .agg cs=>some cs
 | .p q=>some [.p q]
 | .ptr d i o=>some [.ptr d i o]
 | .rp cs=>some [.rp cs]
 | .bx cs=>some [.bx cs]
 | .osl k rows d i=>some [.osl k rows d i]
 | .fn f as bs=>some [.fn f as bs]
 | .bl=>some [.bl]
 | .mp d i=>some [.mp d i]
 | .asl d i n m=>some [.asl d i n m]
 | .rsl d i n m=>some [.rsl d i n m]
 | .rptr d i n o=>some [.rptr d i n o]
 | _=>none
theorem newVar_run (t : TypeId) (x : Value) (w : World) : (newVar t x).run P w = .ok ⟨w.heap.size,0,none⟩ (w.alloc (.cells x.cells t (0,0))):=by
 simp [newVar,newRow]
def downAll (d : Nat) : List AV → Option (List AV)
 | []=>some []
 | c :: cs =>
  match c.down d,downAll d cs with
  | some c',some cs'=>some (c' :: cs')
  | _,_=>none
theorem downAll_ok {d : Nat} : ∀ {cs cs' : List AV} {xs : Array Value},RL Pr φ cs xs → downAll d cs = some cs' → RL Pr (φ.drop d) cs' xs
 | [],cs',xs,h,hd=>by
  simp [downAll] at hd; subst hd
  exact ⟨h.1,fun j c x hc=>by simp at hc⟩
 | c :: cs,cs',xs,h,hd=>by
  have key : ∀ (cs cs' : List AV),downAll d cs = some cs' → cs'.length = cs.length ∧ ∀ (j : Nat) (c : AV),cs'[j]? = some c → ∃ c0 : AV,cs[j]? = some c0 ∧ c0.down d = some c:=by
   intro cs
   induction cs with
   | nil=>intro cs' h; simp [downAll] at h; subst h; exact ⟨rfl,fun j c h=>by simp at h⟩
   | cons c cs ih =>
    intro cs' h
    simp only [downAll] at h
    split at h
    ·rename_i c1 cs1 h1 h2
     cases h
     obtain ⟨h3,h4⟩:=ih cs1 h2
     refine ⟨by simp [h3],fun j c' hc=>?_⟩
     cases j with
     | zero=>simp at hc; subst hc; exact ⟨c,rfl,h1⟩
     | succ j=>simp at hc; simpa using h4 j c' hc
    ·cases h
  obtain ⟨h3,h4⟩:=key _ _ hd
  refine ⟨h3.trans h.1,fun j c' x hc hx=>?_⟩
  obtain ⟨c0,k1,k2⟩:=h4 j c' hc
  exact (h.2 j c0 x k1 hx).down c' k2
theorem rel_stores {d i g : Nat} {e : Ent} {t : TypeId} : ∀ (vs : List AV) (ys : List Value) (o : Nat) (cs : List AV) (S : ASt) (w : World),Rel Pr φ S w → get2 S d i = some (.cells cs t) → get2 φ d i = some e → e.blk = some g → vs.length = ys.length → (∀ (j : Nat) (c : AV) (x : Value),vs[j]? = some c → ys[j]? = some x → RA Pr (φ.drop d) c x) →
  (∀ y ∈ ys,y.oneCell' = true) → o + ys.length ≤ cs.length → ∀ k off,off + k = o → ∃ w',(storeCells ⟨g,off,none⟩ ys k).run P w = .ok () w' ∧ Stp Pr φ w Pr φ w' ∧ Rel Pr φ (set2 S d i (.cells (setAll cs o vs) t)) w'
 | [],ys,o,cs,S,w,hR,hS,hE,hg,hl,hc,h1,hb,k,off,hk=>by
  have : ys = []:=List.eq_nil_of_length_eq_zero (by simpa using hl.symm)
  subst this
  refine ⟨w,by simp [storeCells],Stp.refl _ _ _,?_⟩
  refine ⟨fun d' i' o' ho'=>?_,hR.dis,hR.lt,hR.pr,hR.tb,by rw [set_map]; exact hR.shape⟩
  rw [get2_set _ hS] at ho'
  split at ho'
  ·rename_i hd
   obtain ⟨rfl,rfl⟩:=hd
   cases ho'
   exact hR.obj _ _ _ hS
  ·exact hR.obj _ _ _ ho'
 | v :: vs,[],o,cs,S,w,hR,hS,hE,hg,hl,hc,h1,hb,k,off,hk=>by simp at hl
 | v :: vs,y :: ys,o,cs,S,w,hR,hS,hE,hg,hl,hc,h1,hb,k,off,hk=>by
  have hb' : o + (ys.length + 1) ≤ cs.length:=by simpa using hb
  obtain ⟨s1,r1⟩:=rel_store (o:=o) hR hS hE hg (hc 0 v y rfl rfl)
  have hS1 : get2 (set2 S d i (.cells (cs.set o v) t)) d i = some (.cells (cs.set o v) t):=by rw [get2_set _ hS]; simp
  obtain ⟨w',k1,k2,k3⟩:=rel_stores vs ys (o + 1) (cs.set o v) _ _ r1 hS1 hE hg (by simpa using hl) (fun j c x a b=>hc (j + 1) c x (by simpa using a) (by simpa using b)) (fun z hz=>h1 z (List.mem_cons_of_mem _ hz)) (by simp; omega) (k + 1) off (by omega)
  obtain ⟨e',hE',htok,g',xs,hg',hheap,hlen,hcs,hun⟩:=hR.obj d i _ hS
  rw [hE] at hE'; cases hE'
  rw [hg] at hg'; cases hg'
  have hcell : w.cell? ⟨g,o,none⟩ = some (xs.getD o undef):=by
   rw [cell_blk hheap]
   have : o < xs.size:=by omega
   simp [this]
  have hset : set2 (set2 S d i (.cells (cs.set o v) t)) d i (.cells (setAll (cs.set o v) (o + 1) vs) t) = set2 S d i (.cells (setAll cs o (v :: vs)) t):=by
   obtain ⟨L,hL,hi⟩:=Option.bind_eq_some_iff.1 (show (S[d]?).bind (·[i]?) = _ from hS)
   have hd : d < S.length:=(List.getElem?_eq_some_iff.1 hL).1
   simp [set2,setAll,List.getD,hd]
  refine ⟨w',?_,s1.trans k2,by rw [← hset]; exact k3⟩
  have hadd : (⟨g,off,none⟩ : Addr).add k = ⟨g,o,none⟩:=by rw [addN,hk]
  simp only [storeCells,Sem.run_bind,hadd]
  rw [run_store P w _ y .plain (h1 y (by simp)),hcell]
  simp only [frozen_blk hheap,Bool.false_eq_true,if_false,Result.andThen_ok]
  exact k1
theorem rel_storesR {d i g k n : Nat} {e : Ent} {E : TypeId} : ∀ (vs : List AV) (ys : List Value) (o : Nat) (cs : List AV) (S : ASt) (w : World),Rel Pr φ S w → get2 S d i = some (.row E k n cs) → get2 φ d i = some e → e.blk = some g → vs.length = ys.length → (∀ (j : Nat) (c : AV) (x : Value),vs[j]? = some c → ys[j]? = some x → RA Pr (φ.drop d) c x) →
  (∀ y ∈ ys,y.oneCell' = true) → o + ys.length ≤ cs.length → ∀ q off,off + q = o → ∃ w',(storeCells ⟨g,off,none⟩ ys q).run P w = .ok () w' ∧ Stp Pr φ w Pr φ w' ∧ Rel Pr φ (set2 S d i (.row E k n (setAll cs o vs))) w'
 | [],ys,o,cs,S,w,hR,hS,hE,hg,hl,hc,h1,hb,q,off,hk=>by
  have : ys = []:=List.eq_nil_of_length_eq_zero (by simpa using hl.symm)
  subst this
  refine ⟨w,by simp [storeCells],Stp.refl _ _ _,?_⟩
  refine ⟨fun d' i' o' ho'=>?_,hR.dis,hR.lt,hR.pr,hR.tb,by rw [set_map]; exact hR.shape⟩
  rw [get2_set _ hS] at ho'
  split at ho'
  ·rename_i hd
   obtain ⟨rfl,rfl⟩:=hd
   cases ho'
   exact hR.obj _ _ _ hS
  ·exact hR.obj _ _ _ ho'
 | v :: vs,[],o,cs,S,w,hR,hS,hE,hg,hl,hc,h1,hb,q,off,hk=>by simp at hl
 | v :: vs,y :: ys,o,cs,S,w,hR,hS,hE,hg,hl,hc,h1,hb,q,off,hk=>by
  have hb' : o + (ys.length + 1) ≤ cs.length:=by simpa using hb
  obtain ⟨s1,r1⟩:=rel_storeR (o:=o) hR hS hE hg (by omega) (hc 0 v y rfl rfl)
  have hS1 : get2 (set2 S d i (.row E k n (cs.set o v))) d i = some (.row E k n (cs.set o v)):=by rw [get2_set _ hS]; simp
  obtain ⟨w',k1,k2,k3⟩:=rel_storesR vs ys (o + 1) (cs.set o v) _ _ r1 hS1 hE hg (by simpa using hl) (fun j c x a b=>hc (j + 1) c x (by simpa using a) (by simpa using b)) (fun z hz=>h1 z (List.mem_cons_of_mem _ hz)) (by simp; omega) (q + 1) off (by omega)
  obtain ⟨e',hE',htok,hen,hek,hk0,hcl,hrest⟩:=hR.obj d i _ hS
  rw [hE] at hE'; cases hE'
  obtain ⟨_,hnb⟩ | ⟨g',xs,hg',hheap,hsz,hn0,hnc,hcm,hcs,hun⟩:=hrest
  ·rw [hg] at hnb; cases hnb
  rw [hg] at hg'; cases hg'
  have hle : cs.length ≤ xs.size:=by rw [hcl,hsz]; exact Nat.mul_le_mul_right _ hnc
  have hcell : w.cell? ⟨g,o,none⟩ = some (xs.getD o undef):=by
   rw [cell_blk hheap]
   have : o < xs.size:=by omega
   simp [this]
  have hset : set2 (set2 S d i (.row E k n (cs.set o v))) d i (.row E k n (setAll (cs.set o v) (o + 1) vs)) = set2 S d i (.row E k n (setAll cs o (v :: vs))):=by
   obtain ⟨L,hL,hi⟩:=Option.bind_eq_some_iff.1 (show (S[d]?).bind (·[i]?) = _ from hS)
   have hd : d < S.length:=(List.getElem?_eq_some_iff.1 hL).1
   simp [set2,setAll,List.getD,hd]
  refine ⟨w',?_,s1.trans k2,by rw [← hset]; exact k3⟩
  have hadd : (⟨g,off,none⟩ : Addr).add q = ⟨g,o,none⟩:=by rw [addN,hk]
  simp only [storeCells,Sem.run_bind,hadd]
  rw [run_store P w _ y .plain (h1 y (by simp)),hcell]
  simp only [frozen_blk hheap,Bool.false_eq_true,if_false,Result.andThen_ok]
  exact k1
end
end Go.Proofs.YtfiohepfohhibaaDoor
namespace Go.Proofs.YtfiohepfohhibaaDoor
open Go.RowKit
def appOk (P : Program) (t E : TypeId) (k : Nat) : Bool :=
 match P.underlying t,P.info? E with
 | some (.slice E'),some i=>E' == E && i.size == k && decide (i.bytes ≤ 32768) && decide (0 < k) && (match i.zero with | some z=>z.cells.size == k | none=>false)
 | _,_=>false
def rowsA (k : Nat) : AV → Option (List (List PV))
 | .p (.sl k' rows)=>if k' = k then some rows else none
 | .osl k' rows _ _=>if k' = k then some rows else none
 | .p (.v (.slice none 0 0))=>some []
 | _=>none
def elemOfT (P : Program) (t : TypeId) : Nat :=
 match P.underlying t with
 | some (.slice E)=>E
 | _=>0
def appA (P : Program) (t : TypeId) (s x : AV) (S : ASt) : Option (AV × ASt) :=
 let E:=elemOfT P t
 let k:=P.cellsOf E
 if appOk P t E k then
  match rowsA k x with
  | some rows2 =>
   match s with
   | .osl k' rows d i =>
    match get2 S d i with
    | some (.tok E' k'' n)=>if k' = k ∧ k'' = k ∧ E' = E ∧ n = rows.length ∧ rows.length + rows2.length ≤ 4294967296 then some (.osl k (rows ++ rows2) d i,set2 S d i (.tok E k (rows.length + rows2.length))) else none
    | _=>none
   | .p (.v (.slice none 0 0))=>if rows2.length ≤ 4294967296 then some (.osl k rows2 0 (top S),add2 (.tok E k rows2.length) S) else none
   | .p (.fsl k' rows)=>if k' = k ∧ 0 < rows2.length ∧ rows.length + rows2.length ≤ 4294967296 then some (.osl k (rows ++ rows2) 0 (top S),add2 (.tok E k (rows.length + rows2.length)) S) else if k' = k ∧ rows2.length = 0 then some (.p (.sl k rows),S) else none
   | _=>none
  | none=>none
 else none
def aslA : AV → Option (Nat × Nat × Nat × Nat)
 | .asl d i m k=>some (d,i,m,k)
 | _=>none
def cellsX (k : Nat) (x : AV) (S : ASt) : Option (Nat × List AV) :=
 match aslA x with
 | some (d,i,m,k') =>
  match get2 S d i with
  | some (.cells cs _)=>if k' = k ∧ cs.length = m * k ∧ 0 < m ∧ cs.all oneA = true then some (m,AV.ups d cs) else none
  | _=>none
 | none =>
  match rowsA k x with
  | some rows=>if 0 < rows.length then some (rows.length,rows.flatten.map .p) else none
  | none=>none
def isR : AV → Bool
 | .rsl _ _ _ _=>true
 | _=>false
def isL : AV → Bool
 | .asl _ _ _ _=>true
 | _=>false
def appR (P : Program) (t : TypeId) (s x : AV) (S : ASt) : Option (AV × ASt × List (Nat × Nat)) :=
 let E:=elemOfT P t
 let k:=P.cellsOf E
 if appOk P t E k then
  match cellsX k x S with
  | some (m,cs2) =>
   match s with
   | .rsl d i n k' =>
    match get2 S d i,downAll d cs2 with
    | some (.row E' k'' n' cs),some cs2'=>if k' = k ∧ k'' = k ∧ E' = E ∧ n' = n ∧ n + m ≤ 4294967296 then some (.rsl d i (n + m) k,set2 S d i (.row E k (n + m) (cs ++ cs2')),[(d,i)]) else none
    | _,_=>none
   | .p (.v (.slice none 0 0))=>if m ≤ 4294967296 then some (.rsl 0 (top S) m k,add2 (.row E k m cs2) S,[]) else none
   | _=>none
  | none=>none
 else none
def bytesR (s : ByteArray) : List (List PV):=s.data.toList.map fun b=>[.v (.int .u8 b.toNat)]
def appOkS (P : Program) (t t' E : TypeId) : Bool :=
 match P.underlying t,P.underlying t',P.info? E with
 | some (.slice E'),some .string,some i=>E' == E && i.size == 1 && i.bytes == 1 && (match i.zero with | some (.int .u8 0)=>true | _=>false)
 | _,_,_=>false
def strA : AV → Option ByteArray
 | .p (.v (.string b))=>some b
 | _=>none
def appSA (P : Program) (t t' : TypeId) (s x : AV) (S : ASt) : Option (AV × ASt) :=
 let E:=elemOfT P t
 if appOkS P t t' E then
  match strA x with
  | some b =>
   match s with
   | .osl k' rows d i =>
    match get2 S d i with
    | some (.tok E' k'' n)=>if k' = 1 ∧ k'' = 1 ∧ E' = E ∧ n = rows.length ∧ rows.length + b.size ≤ 4294967296 then some (.osl 1 (rows ++ bytesR b) d i,set2 S d i (.tok E 1 (rows.length + b.size))) else none
    | _=>none
   | .p (.v (.slice none 0 0))=>if b.size ≤ 4294967296 then some (.osl 1 (bytesR b) 0 (top S),add2 (.tok E 1 b.size) S) else none
   | _=>none
  | none=>none
 else none
def updA (P : Program) (T : TypeId) (m k v : AV) (S : ASt) : Option (AV × ASt × List (Nat × Nat)) :=
 match P.underlying T with
 | some (.map kt _) =>
  match m with
  | .mp d i =>
   match get2 S d i,v.down d with
   | some (.map es),some v' =>
    match findA P kt k es with
    | some (key,some (j,_))=>some (.un,set2 S d i (.map (es.set j (key,v'))),[(d,i)])
    | some (key,none)=>some (.un,set2 S d i (.map (es ++ [(key,v')])),[(d,i)])
    | none=>none
   | _,_=>none
  | _=>none
 | _=>none
def entA (P : Program) (T : TypeId) (m k : AV) (S : ASt) : Option (AV × ASt × List (Nat × Nat)) :=
 match P.underlying T with
 | some (.map kt et) =>
  match m with
  | .mp d i =>
   match get2 S d i with
   | some (.map es) =>
    match findA P kt k es with
    | some (key,some (j,v))=>some (.tup [v.up d,.p (.v (.int .i64 j))],set2 S d i (.map (es.set j (key,v))),[(d,i)])
    | some (key,none)=>(zeroV P et).map fun z=>(.tup [z,.p (.v (.int .i64 es.length))],set2 S d i (.map (es ++ [(key,z)])),[(d,i)])
    | none=>none
   | _=>none
  | _=>none
 | _=>none
def entS (m s v : AV) (S : ASt) : Option (AV × ASt × List (Nat × Nat)) :=
 match m,s with
 | .mp d i,.p (.v (.int .i64 n)) =>
  match get2 S d i,v.down d with
  | some (.map es),some v' =>
   match es[n.toNat]? with
   | some (key,_)=>if 0 ≤ n then some (.un,set2 S d i (.map (es.set n.toNat (key,v'))),[(d,i)]) else none
   | none=>none
  | _,_=>none
 | _,_=>none
def evC (P : Program) (o : Oper) (fr : List AV) (S : ASt) : Option (AV × ASt × List (Nat × Nat)) :=
 match o.op with
 | .alloc t=>(zeroA P t).map fun zs=>(.ptr 0 (top S) 0,add2 (.cells (zs.map fun y=>.p (.v y)) t) S,[])
 | .box t x=>(cellsAV (evA fr x)).bind fun cs=>if cs.length = P.cellsOf t then some (.ptr 0 (top S) 0,add2 (.cells cs t) S,[]) else none
 | .store t x v =>
  match evA fr x,cellsAV (evA fr v) with
  | .ptr d i off,some vs =>
   match get2 S d i,downAll d vs with
   | some (.cells cs T),some vs'=>if vs.length = P.cellsOf t ∧ P.cellsOf t ≠ 0 ∧ off + vs.length ≤ cs.length then some (.un,set2 S d i (.cells (setAll cs off vs') T),[(d,i)]) else none
   | _,_=>none
  | .rptr d i n off,some vs =>
   match get2 S d i,downAll d vs with
   | some (.row E k n' cs),some vs'=>if n' = n ∧ vs.length = P.cellsOf t ∧ P.cellsOf t ≠ 0 ∧ off + vs.length ≤ cs.length then some (.un,set2 S d i (.row E k n (setAll cs off vs')),[(d,i)]) else none
   | _,_=>none
  | _,_=>none
 | .buildSlice t len parts =>
  match P.underlying t with
  | some (.slice e)=>if P.cellsOf e ≠ 0 ∧ len = 0 ∧ parts.size = 0 then some (.p (.fsl (P.cellsOf e) []),S,[]) else if P.cellsOf e ≠ 0 ∧ 0 < len ∧ len * P.cellsOf e ≤ 16777216 then
    match zeroA P e with
    | some zs=>if zs.length = P.cellsOf e then
      match fillA (fun i=>some (i * P.cellsOf e,P.cellsOf e)) ((List.range (len * P.cellsOf e)).map fun j=>.p (.v (zs.getD (j % P.cellsOf e) undef))) (parts.toList.map fun q=>(q.1,evA fr q.2)) with
      | some cs =>
       if o.type = 4294967294 ∨ isOwn o.pos t = true then some (.rsl 0 (top S) len (P.cellsOf e),add2 (.row e (P.cellsOf e) len cs) S,[]) else
       match toPs cs with
       | some qs=>some (.osl (P.cellsOf e) (rowsOf (P.cellsOf e) qs len) 0 (top S),add2 (.tok e (P.cellsOf e) len) S,[])
       | none=>some (.asl 0 (top S) len (P.cellsOf e),add2 (.cells cs e) S,[])
      | none=>none
     else none
    | none=>none
   else none
  | _=>none
 | .call c =>
  match c.callee,c.args,c.argTypes with
  | .builtin .append,⟨[s,x]⟩,⟨[t,t']⟩=>if t' = t then if (isR (evA fr s) || isL (evA fr x)) = true then appR P t (evA fr s) (evA fr x) S else (appA P t (evA fr s) (evA fr x) S).map fun r=>(r.1,r.2,[]) else (appSA P t t' (evA fr s) (evA fr x) S).map fun r=>(r.1,r.2,[])
  | _,_,_=>none
 | .makeMap _ none=>some (.mp 0 (top S),add2 (.map []) S,[])
 | .mapUpdate t m k v=>updA P t (evA fr m) (evA fr k) (evA fr v) S
 | .insert t m k v=>updA P t (evA fr m) (evA fr k) (evA fr v) S
 | .mapEntry t m k=>entA P t (evA fr m) (evA fr k) S
 | .entryStore _ m s v=>entS (evA fr m) (evA fr s) (evA fr v) S
 | _=>none
section
variable {P : Program} {Pr : Prot} {φ : Fi2}
theorem rel_congr {S T : ASt} {w : World} (h : Rel Pr φ S w) (hg : ∀ d i,get2 T d i = get2 S d i) (hm : T.map List.length = S.map List.length) : Rel Pr φ T w :=
 ⟨fun d i o ho=>h.obj d i o (by rw [← hg]; exact ho),h.dis,h.lt,h.pr,h.tb,h.shape.trans hm.symm⟩
theorem appOk_spec {t E k : Nat} (h : appOk P t E k = true) : P.underlying t = some (.slice E) ∧ ∃ i z,P.info? E = some i ∧ i.zero = some z ∧ i.size = k ∧ z.cells.size = k ∧ i.bytes ≤ 32768 ∧ 0 < k:=by
 unfold appOk at h
 split at h
 ·rename_i E' i ht hi
  simp only [Bool.and_eq_true,beq_iff_eq,decide_eq_true_eq] at h
  obtain ⟨⟨⟨⟨rfl,h2⟩,h3⟩,h4⟩,h5⟩:=h
  split at h5
  ·rename_i z hz
   exact ⟨ht,i,z,hi,hz,h2,by simpa using h5,h3,h4⟩
  ·cases h5
 ·cases h
theorem rowsA_ok {k : Nat} {v : AV} {x : Value} {rows2 : List (List PV)} (hk : 0 < k) (h : RA Pr φ v x) (hr : rowsA k v = some rows2) : RP Pr (.sl k rows2) x:=by
 unfold rowsA at hr
 split at hr
 ·split at hr
  ·rename_i hkk
   subst hkk
   cases hr
   cases h with
   | p h=>exact h
  ·cases hr
 ·split at hr
  ·rename_i hkk
   subst hkk
   cases hr
   exact h.sl
  ·cases hr
 ·cases hr
  have:=atomAV_ok h rfl
  subst this
  exact .slemp k none 0 (Nat.zero_le _)
 ·cases hr
theorem rel_app {t ty E k n d i : Nat} {rows rows2 : List (List PV)} {S : ASt} {w : World} {x y : Value} (hR : Rel Pr φ S w) (hok : appOk P t E k = true) (hS : get2 S d i = some (.tok E k n)) (hx : RA Pr φ (.osl k rows d i) x) (hy : RP Pr (.sl k rows2) y) (hn : n = rows.length) (hb : rows.length + rows2.length ≤ 4294967296) :
  ∃ v' w' Pr' φ',(Builtin.append_ #[t,t] ty #[x,y]).run P w = .ok v' w' ∧ Stp Pr φ w Pr' φ' w' ∧ Rel Pr' φ' (set2 S d i (.tok E k (rows.length + rows2.length))) w' ∧ RA Pr' φ' (.osl k (rows ++ rows2) d i) v':=by
 obtain ⟨ht,inf,z,hi,hz,hs,hzs,hby,hk⟩:=appOk_spec hok
 subst hn
 by_cases hm : 0 < rows2.length
 ·obtain ⟨b,off,cap,news,rfl,hw,hnl,hnews,hra⟩:=hy.cells hk hm
  have hby' : (rows.length + rows2.length) * inf.bytes ≤ 140737488355328:=Nat.le_trans (Nat.mul_le_mul hb hby) (by decide)
  exact rel_append (tx:=t) (ty:=ty) (src:=.slice (some ⟨b,off,none⟩) rows2.length cap) (news:=news) hR hS hx rfl hm hw hra hb (fun xs hown=>append_moves w t ty E inf z k ht hi hz hs hzs hk x _ xs hown ⟨b,off,none⟩ rows2.length cap news hnl (fun j u hu=>by rw [addN]; exact hR.pr _ _ _ (hnews j u hu).1) (fun u hu=>by
   obtain ⟨j,hj⟩:=List.getElem?_of_mem hu
   exact (hnews j u hj).2) hm (by unfold maxLen; omega) hby')
 ·have h0 : rows2 = []:=List.eq_nil_of_length_eq_zero (by omega)
  subst h0
  obtain ⟨A,cap,rfl⟩ : ∃ A cap,y = .slice A 0 cap:=by
   cases hy with
   | slemp=>exact ⟨_,_,rfl⟩
   | sl=>exact ⟨_,_,rfl⟩
  obtain ⟨A',cap',hxe,hle⟩ : ∃ A' cap',x = .slice A' rows.length cap' ∧ rows.length ≤ cap':=by
   cases hx with
   | onil=>exact ⟨_,_,rfl,Nat.le_refl _⟩
   | osl vs a1 a2 a3 a4 a5 a6=>exact ⟨_,_,rfl,a6⟩
  refine ⟨x,w,Pr,φ,?_,Stp.refl _ _ _,rel_congr hR (fun d' i'=>?_) (set_map _ _ _ _),by simpa using hx⟩
  ·subst hxe
   have hf : (Builtin.firstCells inf.size 0 (.slice A 0 cap)).run P w = .ok #[] w:=by
    cases A <;> simp [Builtin.firstCells,loadCells,loadCellsFrom]
   have hst : ∀ a : Addr,(storeCells a ([] : List Value)).run P w = .ok () w:=fun a=>by simp [storeCells]
   cases A' with
   | none=>simp [Builtin.append_,run_underlying ht,sizeOf,typeInfo,hi,Builtin.lenOf,hle,hf]
   | some a=>simp [Builtin.append_,run_underlying ht,sizeOf,typeInfo,hi,Builtin.lenOf,hle,hf,hst]
  ·rw [get2_set _ hS]
   split
   ·rename_i hd
    rw [hd.1,hd.2,hS]; simp
   ·rfl
theorem rel_appF {t ty E k : Nat} {rows rows2 : List (List PV)} {S : ASt} {w : World} {x y : Value} (hR : Rel Pr φ S w) (hne : φ ≠ []) (hok : appOk P t E k = true) (hx : RP Pr (.fsl k rows) x) (hy : RP Pr (.sl k rows2) y) (hm : 0 < rows2.length) (hb : rows.length + rows2.length ≤ 4294967296) :
  ∃ v' w' Pr' φ',(Builtin.append_ #[t,t] ty #[x,y]).run P w = .ok v' w' ∧ Stp Pr φ w Pr' φ' w' ∧ Rel Pr' φ' (add2 (.tok E k (rows.length + rows2.length)) S) w' ∧ RA Pr' φ' (.osl k (rows ++ rows2) 0 (top S)) v':=by
 obtain ⟨ht,inf,z,hi,hz,hs,hzs,hby,hk⟩:=appOk_spec hok
 obtain ⟨φ1,s1,r1,g1⟩:=rel_ghost hR hne E k hk
 have hS1 : get2 (add2 (.tok E k 0) S) 0 (top S) = some (.tok E k 0):=get2_add_new _ _
 obtain ⟨b,off,cap,news,rfl,hw,hnl,hnews,hra⟩:=hy.cells hk hm
 have hby' : (rows.length + rows2.length) * inf.bytes ≤ 140737488355328:=Nat.le_trans (Nat.mul_le_mul hb hby) (by decide)
 cases hx with
 | @fsl _ A cap0 _ hx =>
  obtain ⟨olds,hw0,hol,hra0,holds⟩ : ∃ olds,Wide k rows ∧ olds.length = rows.length * k ∧ RowsAt Pr k rows olds ∧ (0 < rows.length → ∃ b,A = some b ∧ ∀ j u,olds[j]? = some u → w.cell? (b.add j) = some u):=by
   by_cases h0 : 0 < rows.length
   ·obtain ⟨b0,off0,c0,olds,he,k1,k2,k3,k4⟩:=hx.cells hk h0
    injection he with he
    exact ⟨olds,k1,k2,k4,fun _=>⟨_,he,fun j u hu=>by rw [addN]; exact hR.pr _ _ _ (k3 j u hu).1⟩⟩
   ·have : rows = []:=List.eq_nil_of_length_eq_zero (by omega)
    subst this
    exact ⟨[],fun r row h=>by simp at h,by simp,fun r row j p a b=>by simp at a,fun h=>absurd h h0⟩
  have hrs : (rows ++ rows2).length = rows.length + rows2.length:=List.length_append
  obtain ⟨v',w',Pr',φ',q1,q2,q3,q4⟩:=rel_appendM (P:=P) (M:=Builtin.append_ #[t,t] ty #[.slice A rows.length rows.length,.slice (some ⟨b,off,none⟩) rows2.length cap]) (rows2:=rows ++ rows2) (news:=olds ++ news) r1 hS1 g1 rfl (by omega) (hw0.append hw) (RowsAt.append hol hw0 hra0 hra hw) (by omega) (fun xs hown=>by
   have hx0 : xs = []:=List.eq_nil_of_length_eq_zero (by have:=hown.1; simpa using this)
   subst hx0
   rw [hrs]
   exact append_full w t ty E inf z k ht hi hz hs hzs A rows.length olds hol holds ⟨b,off,none⟩ rows2.length cap news hnl (fun j u hu=>by rw [addN]; exact hR.pr _ _ _ (hnews j u hu).1) hm (by unfold maxLen; omega) hby')
  refine ⟨v',w',Pr',φ',q1,s1.trans q2,?_,by simpa using q4⟩
  have e : set2 (add2 (.tok E k 0) S) 0 (top S) (.tok E k (0 + (rows ++ rows2).length)) = add2 (.tok E k (rows.length + rows2.length)) S:=by
   rw [hrs]
   cases S <;> simp [set2,add2,top]
  rw [← e]; exact q3
theorem RP.unf {Pr : Prot} {k : Nat} {rows : List (List PV)} {x : Value} (h : RP Pr (.fsl k rows) x) : RP Pr (.sl k rows) x:=by
 cases h with
 | fsl hx =>
  cases hx with
  | slemp k A cap h=>exact .slemp _ _ _ (Nat.zero_le _)
  | sl vs h1 h2 h3 h4 h5=>exact .sl vs (Nat.le_refl _) (Nat.le_trans h1 h2) h3 h4 h5
theorem run_appE {t ty E k : Nat} {rows rows2 : List (List PV)} {w : World} {x y : Value} (hok : appOk P t E k = true) (hx : RP Pr (.fsl k rows) x) (hy : RP Pr (.sl k rows2) y) (hm : rows2.length = 0) : (Builtin.append_ #[t,t] ty #[x,y]).run P w = .ok x w:=by
 obtain ⟨ht,inf,z,hi,hz,hs,hzs,hby,hk⟩:=appOk_spec hok
 have h0 : rows2 = []:=List.eq_nil_of_length_eq_zero hm
 subst h0
 obtain ⟨A,cap,rfl⟩ : ∃ A cap,y = .slice A 0 cap:=by
  cases hy with
  | slemp=>exact ⟨_,_,rfl⟩
  | sl=>exact ⟨_,_,rfl⟩
 cases hx with
 | @fsl _ A' cap0 _ hx =>
  have hf : (Builtin.firstCells inf.size 0 (.slice A 0 cap)).run P w = .ok #[] w:=by
   cases A <;> simp [Builtin.firstCells,loadCells,loadCellsFrom]
  have hst : ∀ a : Addr,(storeCells a ([] : List Value)).run P w = .ok () w:=fun a=>by simp [storeCells]
  cases A' with
  | none=>simp [Builtin.append_,run_underlying ht,sizeOf,typeInfo,hi,Builtin.lenOf,hf]
  | some a=>simp [Builtin.append_,run_underlying ht,sizeOf,typeInfo,hi,Builtin.lenOf,hf,hst]
theorem appOkS_spec {t t' E : Nat} (h : appOkS P t t' E = true) : P.underlying t = some (.slice E) ∧ P.underlying t' = some .string ∧ ∃ i,P.info? E = some i ∧ i.zero = some (.int .u8 0) ∧ i.size = 1 ∧ i.bytes = 1:=by
 unfold appOkS at h
 split at h
 ·rename_i E' i ht hu hi
  simp only [Bool.and_eq_true,beq_iff_eq] at h
  obtain ⟨⟨⟨rfl,h2⟩,h3⟩,h5⟩:=h
  split at h5
  ·rename_i hz
   exact ⟨ht,hu,i,hi,hz,h2,h3⟩
  ·cases h5
 ·cases h
theorem bytesR_len (b : ByteArray) : (bytesR b).length = b.size:=by simp [bytesR]
theorem bytesR_at {Pr : Prot} (b : ByteArray) : RowsAt Pr 1 (bytesR b) (Lib.strCells b):=fun r row j p hr hj=>by
 rw [bytesR,List.getElem?_map] at hr
 obtain ⟨c,hc,rfl⟩:=Option.map_eq_some_iff.1 hr
 cases j with
 | succ j=>simp at hj
 | zero =>
  simp at hj
  subst hj
  refine ⟨.int .u8 c.toNat,?_,.v rfl⟩
  rw [Nat.mul_one,Nat.add_zero,Lib.strCells,List.getElem?_map,hc]
  rfl
theorem rel_appS {t t' ty E n d i : Nat} {rows : List (List PV)} {b : ByteArray} {S : ASt} {w : World} {x : Value} (hR : Rel Pr φ S w) (hok : appOkS P t t' E = true) (hS : get2 S d i = some (.tok E 1 n)) (hx : RA Pr φ (.osl 1 rows d i) x) (hn : n = rows.length) (hb : rows.length + b.size ≤ 4294967296) :
  ∃ v' w' Pr' φ',(Builtin.append_ #[t,t'] ty #[x,.string b]).run P w = .ok v' w' ∧ Stp Pr φ w Pr' φ' w' ∧ Rel Pr' φ' (set2 S d i (.tok E 1 (rows.length + b.size))) w' ∧ RA Pr' φ' (.osl 1 (rows ++ bytesR b) d i) v':=by
 obtain ⟨ht,hu,inf,hi,hz,hs,hby⟩:=appOkS_spec hok
 subst hn
 by_cases hm : 0 < b.size
 ·have hw2 : Wide 1 (bytesR b):=fun r row hr=>by
   rw [bytesR,List.getElem?_map] at hr
   obtain ⟨c,hc,rfl⟩:=Option.map_eq_some_iff.1 hr
   rfl
  have:=rel_append (P:=P) (tx:=t') (t:=t) (ty:=ty) (src:=.string b) (rows2:=bytesR b) (news:=Lib.strCells b) hR hS hx rfl (by rw [bytesR_len]; exact hm) hw2 (bytesR_at b) (by rw [bytesR_len]; exact hb) (fun xs hown=>by
   rw [bytesR_len]
   exact append_moves_str w t t' ty E inf ht hu hi hz hs hby x _ xs hown b hm (by unfold maxLen; omega) (by omega))
  rw [bytesR_len] at this
  exact this
 ·have h0 : b.size = 0:=by omega
  have hb0 : bytesR b = []:=List.eq_nil_of_length_eq_zero (by rw [bytesR_len]; exact h0)
  have hc0 : Lib.strCells b = []:=List.eq_nil_of_length_eq_zero (by rw [Lib.strCells_length]; exact h0)
  have hsl : ∀ k,RA Pr φ (.osl k rows d i) x → ∃ A' cap',x = .slice A' rows.length cap' ∧ rows.length ≤ cap':=fun k hx=>by
   cases hx with
   | onil=>exact ⟨_,_,rfl,Nat.le_refl _⟩
   | osl vs a1 a2 a3 a4 a5 a6=>exact ⟨_,_,rfl,a6⟩
  obtain ⟨A',cap',hxe,hle⟩:=hsl 1 hx
  refine ⟨x,w,Pr,φ,?_,Stp.refl _ _ _,rel_congr hR (fun d' i'=>?_) (set_map _ _ _ _),by simpa [hb0] using hx⟩
  ·subst hxe
   have hf:=Lib.run_firstCells_string (P:=P) w 1 b
   rw [h0,hc0] at hf
   have hst : ∀ a : Addr,(storeCells a ([] : List Value)).run P w = .ok () w:=fun a=>by simp [storeCells]
   cases A' with
   | none=>simp [Builtin.append_,run_underlying ht,run_underlying hu,sizeOf,typeInfo,hi,hs,Builtin.lenOf,h0,hle,hf]
   | some a=>simp [Builtin.append_,run_underlying ht,run_underlying hu,sizeOf,typeInfo,hi,hs,Builtin.lenOf,h0,hle,hf,hst]
  ·rw [get2_set _ hS]
   split
   ·rename_i hd
    rw [hd.1,hd.2,hS,h0]; simp
   ·rfl
theorem strA_ok {v : AV} {x : Value} {b : ByteArray} (h : RA Pr φ v x) (hs : strA v = some b) : x = .string b:=by
 unfold strA at hs
 split at hs
 ·cases hs; exact atomAV_ok h rfl
 ·cases hs
theorem rel_own {Pr Pr' : Prot} {S : ASt} {w w' : World} (hne : φ ≠ []) (s1 : Stp Pr φ w Pr' φ w') (r1 : Rel Pr' φ S w') (h0 : Rel Pr φ S w) {E : TypeId} {k n : Nat} {rows : List (List PV)} {xs : Array Value} (hk : 0 < k) (hn : 0 < n) (hrl : rows.length = n) (hm : n ≤ maxLen) (hxs : xs.size = n * k)
  (hb : w'.heap[w.heap.size]? = some (.cells xs E (0,0))) (hp : ∀ o,n * k ≤ o → Pr' w.heap.size o = none) (g1 : RP Pr' (.sl k rows) (.slice (some ⟨w.heap.size,0,none⟩) n n)) :
  ∃ φ',Stp Pr φ w Pr' φ' w' ∧ Rel Pr' φ' (add2 (.tok E k n) S) w' ∧ RA Pr' φ' (.osl k rows 0 (top S)) (.slice (some ⟨w.heap.size,0,none⟩) n n):=by
 have ht : top φ = top S:=top_map r1.shape
 have hnew : get2 (add2 ⟨true,some w.heap.size,n,n,k⟩ φ) 0 (top S) = some ⟨true,some w.heap.size,n,n,k⟩:=by rw [← ht]; exact get2_add_new _ _
 have hno : ∀ d i e,get2 φ d i = some e → e.blk ≠ some w.heap.size:=fun d i e he hg=>absurd (h0.lt d i e _ he hg) (Nat.lt_irrefl _)
 have hfr : ∀ d i e g,get2 (add2 ⟨true,some w.heap.size,n,n,k⟩ φ) d i = some e → e.blk = some g → (∃ d0 i0 e0,get2 φ d0 i0 = some e0 ∧ e0.blk = some g) ∨ w.heap.size ≤ g:=fun d i e g he hg=>by
  rw [get2_add] at he
  split at he
  ·cases he; cases hg; exact .inr (Nat.le_refl _)
  ·exact .inl ⟨d,i,e,he,hg⟩
 refine ⟨add2 ⟨true,some w.heap.size,n,n,k⟩ φ,⟨s1.pl,ent_le_add _ _,hfr,s1.fr,add_len _ _ hne,s1.pn⟩,⟨fun d i o ho=>?_,fun d i e d' i' e' g h1 h2 h3 h4=>?_,fun d i e g h1 h2=>?_,r1.pr,h0.tb.of s1.pl s1.fr.block hfr,add_map r1.shape _ _⟩,?_⟩
 ·rw [get2_add] at ho
  split at ho
  ·rename_i hd
   obtain ⟨rfl,rfl⟩:=hd
   cases ho
   exact ⟨_,hnew,rfl,rfl,rfl,hk,.inr ⟨w.heap.size,xs,rfl,hb,hxs,hn,Nat.le_refl _,hm,hp⟩⟩
  ·obtain ⟨e,he,hr⟩:=r1.obj d i o ho
   exact ⟨e,get2_add_old _ he,hr.keep (Prot.le_refl _) ((ent_le_add _ _).drop d) fun g hg=>⟨rfl,fun _ h=>h⟩⟩
 ·rw [get2_add] at h1 h2
  split at h1
  ·rename_i hd
   cases h1; cases h3
   split at h2
   ·rename_i hd'
    exact ⟨hd.1.trans hd'.1.symm,hd.2.trans hd'.2.symm⟩
   ·exact absurd h4 (hno _ _ _ h2)
  ·split at h2
   ·cases h2; cases h4
    exact absurd h3 (hno _ _ _ h1)
   ·exact r1.dis d i e d' i' e' g h1 h2 h3 h4
 ·rw [get2_add] at h1
  split at h1
  ·cases h1; cases h2; exact blk_lt hb
  ·exact r1.lt d i e g h1 h2
 ·generalize hsl : Value.slice (some ⟨w.heap.size,0,none⟩) n n = y at g1 ⊢
  cases g1 with
  | slemp=>simp at hrl; omega
  | sl vs c1 c2 c3 c4 c5 =>
   injection hsl with e1 e2 e3
   cases e1
   subst e2 e3
   have:=RA.osl (Pr:=Pr') (φ:=add2 ⟨true,some w.heap.size,rows.length,rows.length,k⟩ φ) (rows:=rows) (g:=w.heap.size) (cap:=rows.length) vs (by rw [hrl] at *; exact hnew) rfl (by omega) (Nat.le_refl _) (fun _=>⟨rfl,rfl⟩) c1 c2 c3 (fun r row j p a b=>by have:=c4 r row j p a b; rwa [Nat.zero_add] at this) c5
   exact this
theorem updA_ok {T : TypeId} {m k u v : AV} {x y z : Value} {S S' : ASt} {w : World} {lg : List (Nat × Nat)} (hm : RA Pr φ m x) (hk : RA Pr φ k y) (hu : RA Pr φ u z) (hR : Rel Pr φ S w) (hv : updA P T m k u S = some (v,S',lg)) :
  ∃ w',(Instr.mapUpdate T x y z).run P w = .ok () w' ∧ Stp Pr φ w Pr φ w' ∧ Rel Pr φ S' w' ∧ v = .un:=by
 unfold updA at hv
 split at hv
 ·rename_i kt et hT
  split at hv
  ·rename_i d i
   split at hv
   ·rename_i es v' hS hd
    obtain ⟨e,hE,htok,g,ents,clock,hg,hheap,hl,hc,hun,hbn⟩:=hR.obj d i _ hS
    cases hm with
    | mp h1 h2 h3 =>
     rw [hE] at h1; cases h1
     rw [hg] at h3; cases h3
     have hgo : (getObj g).run P w = .ok (.map ents clock) w:=by simp [getObj,Sem.run,hheap]
     have hso : ∀ ob,(setObj g ob).run P w = .ok () { w with heap:=w.heap.setIfInBounds g ob }:=fun ob=>by simp [setObj,Sem.run,hheap]
     have hvd:=hu.down _ hd
     have hlt : g < w.heap.size:=blk_lt hheap
     split at hv
     ·rename_i key j u0 hf
      cases hv
      obtain ⟨rfl,hck,hfs⟩:=findA_run (ents:=ents.toList) hk (by rw [Array.length_toList]; exact hl) (fun j kv en a b=>hc j kv en a (by simpa using b)) hf
      rcases hfs with ⟨h3,_⟩ | ⟨j',v1,z1,h3,h4,h5,kv,en,h6,h7,_,_,hsb⟩
      ·cases h3
      ·cases h3
       have hen : ents[j]? = some en:=by simpa using h7
       have hkey : en.key = kv.1:=(hc j kv en h6 hen).1
       rw [← hkey] at hsb
       have hkk : ((ents[j]?).map (·.key)).getD y = en.key:=by rw [hen]; rfl
       obtain ⟨s1,r1⟩:=rel_setO (ao:=.map (es.set j (y,v'))) hR hS hE hg hun (.map (ents.modify j fun e=>{ e with key:=y,val:=z }) clock) (by
        refine ⟨htok,g,ents.modify j fun e=>{ e with key:=y,val:=z },clock,hg,by simp [hlt],by simpa using hl,fun q kv' en' a b=>?_,hun,hbn.modify j fun e=>rfl⟩
        rw [Array.getElem?_modify] at b
        by_cases hq : q = j
        ·subst hq
         have hlq : q < es.length:=(List.getElem?_eq_some_iff.1 h6).1
         rw [List.getElem?_set_self hlq] at a
         cases a
         rw [if_pos rfl,hen] at b
         cases b
         exact ⟨rfl,hvd⟩
        ·rw [List.getElem?_set_ne (Ne.symm hq)] at a
         rw [if_neg (Ne.symm hq)] at b
         obtain ⟨en0,hb0,hb1⟩ : ∃ en0,ents[q]? = some en0 ∧ en0 = en':=⟨en',by simpa using b,rfl⟩
         subst hb1
         exact hc q kv' en0 a hb0)
       refine ⟨_,?_,s1,r1,rfl⟩
       simp [Instr.mapUpdate,run_underlying hT,hgo,hck,h4,Instr.keyThatStays,hen,hsb,hso]
     ·rename_i key hf
      cases hv
      obtain ⟨rfl,hck,hfs⟩:=findA_run (ents:=ents.toList) hk (by rw [Array.length_toList]; exact hl) (fun j kv en a b=>hc j kv en a (by simpa using b)) hf
      rcases hfs with ⟨_,h4⟩ | ⟨j',v1,z1,h3,_⟩
      ·obtain ⟨s1,r1⟩:=rel_setO (ao:=.map (es ++ [(y,v')])) hR hS hE hg hun (.map (ents.push { key:=y,val:=z,born:=clock }) (clock + 1)) (by
        refine ⟨htok,g,ents.push { key:=y,val:=z,born:=clock },clock + 1,hg,by simp [hlt],by simpa using hl,fun q kv' en' a b=>?_,hun,hbn.push rfl⟩
        rcases Nat.lt_or_ge q es.length with hq | hq
        ·rw [List.getElem?_append_left hq] at a
         rw [Array.getElem?_push_lt (by omega)] at b
         exact hc q kv' en' a (by rw [Array.getElem?_eq_getElem (by omega)]; exact b)
        ·rw [List.getElem?_append_right hq] at a
         have hq0 : q = es.length:=by
          have:=(List.getElem?_eq_some_iff.1 a).1
          simp at this; omega
         subst hq0
         simp at a
         rw [hl,Array.getElem?_push_size] at b
         cases b
         subst a
         exact ⟨rfl,hvd⟩)
       refine ⟨_,?_,s1,r1,rfl⟩
       simp [Instr.mapUpdate,run_underlying hT,hgo,hck,h4,hso]
      ·cases h3
     ·cases hv
   ·cases hv
  ·cases hv
 ·cases hv
theorem entA_ok {T : TypeId} {m k v : AV} {x y : Value} {S S' : ASt} {w : World} {lg : List (Nat × Nat)} (hm : RA Pr φ m x) (hk : RA Pr φ k y) (hR : Rel Pr φ S w) (hv : entA P T m k S = some (v,S',lg)) :
  ∃ z w',(Instr.mapEntry T x y).run P w = .ok z w' ∧ Stp Pr φ w Pr φ w' ∧ Rel Pr φ S' w' ∧ RA Pr φ v z:=by
 unfold entA at hv
 split at hv
 ·rename_i kt et hT
  split at hv
  ·rename_i d i
   split at hv
   ·rename_i es hS
    obtain ⟨e,hE,htok,g,ents,clock,hg,hheap,hl,hc,hun,hbn⟩:=hR.obj d i _ hS
    cases hm with
    | mp h1 h2 h3 =>
     rw [hE] at h1; cases h1
     rw [hg] at h3; cases h3
     have hgo : (getObj g).run P w = .ok (.map ents clock) w:=by simp [getObj,Sem.run,hheap]
     have hso : ∀ ob,(setObj g ob).run P w = .ok () { w with heap:=w.heap.setIfInBounds g ob }:=fun ob=>by simp [setObj,Sem.run,hheap]
     have hlt : g < w.heap.size:=blk_lt hheap
     split at hv
     ·rename_i key j u0 hf
      cases hv
      obtain ⟨rfl,hck,hfs⟩:=findA_run (ents:=ents.toList) hk (by rw [Array.length_toList]; exact hl) (fun j kv en a b=>hc j kv en a (by simpa using b)) hf
      rcases hfs with ⟨h3,_⟩ | ⟨j',v1,z1,h3,h4,h5,kv,en,h6,h7,h8,h9,hsb⟩
      ·cases h3
      ·cases h3
       have hen : ents[j]? = some en:=by simpa using h7
       have hkey : en.key = kv.1:=(hc j kv en h6 hen).1
       rw [← hkey] at hsb
       have hborn:=hbn.2 j en hen
       obtain ⟨s1,r1⟩:=rel_setO (ao:=.map (es.set j (y,u0))) hR hS hE hg hun (.map (ents.modify j fun e=>{ e with key:=y }) clock) (by
        refine ⟨htok,g,ents.modify j fun e=>{ e with key:=y },clock,hg,by simp [hlt],by simpa using hl,fun q kv' en' a b=>?_,hun,hbn.modify j fun e=>rfl⟩
        rw [Array.getElem?_modify] at b
        by_cases hq : q = j
        ·subst hq
         have hlq : q < es.length:=(List.getElem?_eq_some_iff.1 h6).1
         rw [List.getElem?_set_self hlq] at a
         cases a
         rw [if_pos rfl,hen] at b
         cases b
         exact ⟨rfl,by rw [h9]; exact h5⟩
        ·rw [List.getElem?_set_ne (Ne.symm hq)] at a
         rw [if_neg (Ne.symm hq)] at b
         obtain ⟨en0,hb0,hb1⟩ : ∃ en0,ents[q]? = some en0 ∧ en0 = en':=⟨en',by simpa using b,rfl⟩
         subst hb1
         exact hc q kv' en0 a hb0)
       have h6':=h5.up (k:=d)
       refine ⟨.tuple #[z1,.int .i64 j],_,?_,s1,r1,.tup rfl fun q c x hc hx=>?_⟩
       ·simp [Instr.mapEntry,run_underlying hT,hgo,hck,h4,Instr.keyThatStays,hen,hsb,hso,hborn,goInt]
       ·match q,hc,hx with
        | 0,hc,hx=>cases hc; cases hx; exact h6'
        | 1,hc,hx=>cases hc; cases hx; exact .p (.v rfl)
     ·rename_i key hf
      obtain ⟨z0,hz,hv'⟩:=Option.map_eq_some_iff.1 hv
      cases hv'
      obtain ⟨rfl,hck,hfs⟩:=findA_run (ents:=ents.toList) hk (by rw [Array.length_toList]; exact hl) (fun j kv en a b=>hc j kv en a (by simpa using b)) hf
      rcases hfs with ⟨_,h4⟩ | ⟨j',v1,z1,h3,_⟩
      ·obtain ⟨z,h6,h7⟩:=zeroV_okA (Pr:=Pr) hz
       obtain ⟨s1,r1⟩:=rel_setO (ao:=.map (es ++ [(y,z0)])) hR hS hE hg hun (.map (ents.push { key:=y,val:=z,born:=clock }) (clock + 1)) (by
        refine ⟨htok,g,ents.push { key:=y,val:=z,born:=clock },clock + 1,hg,by simp [hlt],by simpa using hl,fun q kv' en' a b=>?_,hun,hbn.push rfl⟩
        rcases Nat.lt_or_ge q es.length with hq | hq
        ·rw [List.getElem?_append_left hq] at a
         rw [Array.getElem?_push_lt (by omega)] at b
         exact hc q kv' en' a (by rw [Array.getElem?_eq_getElem (by omega)]; exact b)
        ·rw [List.getElem?_append_right hq] at a
         have hq0 : q = es.length:=by
          have:=(List.getElem?_eq_some_iff.1 a).1
          simp at this; omega
         subst hq0
         simp at a
         rw [hl,Array.getElem?_push_size] at b
         cases b
         subst a
         exact ⟨rfl,h6 _⟩)
       refine ⟨.tuple #[z,.int .i64 clock],_,?_,s1,r1,.tup rfl fun q c x hc hx=>?_⟩
       ·simp [Instr.mapEntry,run_underlying hT,hgo,hck,h4,hso,h7,goInt]
       ·match q,hc,hx with
        | 0,hc,hx=>cases hc; cases hx; exact h6 _
        | 1,hc,hx=>cases hc; cases hx; rw [hl,← hbn.1]; exact .p (.v rfl)
      ·cases h3
     ·cases hv
   ·cases hv
  ·cases hv
 ·cases hv
theorem entS_ok {T : TypeId} {m s u v : AV} {x y z : Value} {S S' : ASt} {w : World} {lg : List (Nat × Nat)} (hm : RA Pr φ m x) (hk : RA Pr φ s y) (hu : RA Pr φ u z) (hR : Rel Pr φ S w) (hv : entS m s u S = some (v,S',lg)) :
  ∃ w',(Instr.entryStore T x y z).run P w = .ok () w' ∧ Stp Pr φ w Pr φ w' ∧ Rel Pr φ S' w' ∧ v = .un:=by
 unfold entS at hv
 split at hv
 ·rename_i d i n
  split at hv
  ·rename_i es v' hS hd
   obtain ⟨e,hE,htok,g,ents,clock,hg,hheap,hl,hc,hun,hbn⟩:=hR.obj d i _ hS
   have hy:=atomAV_ok hk rfl
   subst hy
   cases hm with
   | mp h1 h2 h3 =>
    rw [hE] at h1; cases h1
    rw [hg] at h3; cases h3
    have hgo : (getObj g).run P w = .ok (.map ents clock) w:=by simp [getObj,Sem.run,hheap]
    have hso : ∀ ob,(setObj g ob).run P w = .ok () { w with heap:=w.heap.setIfInBounds g ob }:=fun ob=>by simp [setObj,Sem.run,hheap]
    have hvd:=hu.down _ hd
    have hlt : g < w.heap.size:=blk_lt hheap
    split at hv
    ·rename_i key u0 hkv
     split at hv
     ·rename_i hn
      cases hv
      obtain ⟨j,rfl⟩:=Int.eq_ofNat_of_zero_le hn
      simp only [Int.toNat_natCast] at hkv
      have hlq : j < es.length:=(List.getElem?_eq_some_iff.1 hkv).1
      have hje : j < ents.size:=by omega
      have hfi:=hbn.find hje
      have hen : ents[j]? = some ents[j]:=Array.getElem?_eq_getElem hje
      obtain ⟨s1,r1⟩:=rel_setO (ao:=.map (es.set j (key,v'))) hR hS hE hg hun (.map (ents.modify j fun e=>{ e with val:=z }) clock) (by
       refine ⟨htok,g,ents.modify j fun e=>{ e with val:=z },clock,hg,by simp [hlt],by simpa using hl,fun q kv' en' a b=>?_,hun,hbn.modify j fun e=>rfl⟩
       rw [Array.getElem?_modify] at b
       by_cases hq : q = j
       ·subst hq
        rw [List.getElem?_set_self hlq] at a
        cases a
        rw [if_pos rfl,hen] at b
        cases b
        exact ⟨(hc q _ _ hkv hen).1,hvd⟩
       ·rw [List.getElem?_set_ne (Ne.symm hq)] at a
        rw [if_neg (Ne.symm hq)] at b
        obtain ⟨en0,hb0,hb1⟩ : ∃ en0,ents[q]? = some en0 ∧ en0 = en':=⟨en',by simpa using b,rfl⟩
        subst hb1
        exact hc q kv' en0 a hb0)
      refine ⟨_,?_,s1,by simpa using r1,rfl⟩
      simp [Instr.entryStore,hgo,asInt,asIntOf,hfi,hso]
     ·cases hv
    ·cases hv
  ·cases hv
 ·cases hv
theorem flat_get {k : Nat} (hk : 0 < k) : ∀ {rows : List (List PV)},Wide k rows → ∀ j,rows.flatten[j]? = (rows[j / k]?).bind (·[j % k]?)
 | [],_,j=>by simp
 | r :: rs,hw,j=>by
  have hr : r.length = k:=hw 0 r rfl
  have hw' : Wide k rs:=fun q row h=>hw (q + 1) row (by simpa using h)
  rw [List.flatten_cons]
  rcases Nat.lt_or_ge j k with hj | hj
  ·rw [List.getElem?_append_left (by omega),Nat.div_eq_of_lt hj,Nat.mod_eq_of_lt hj]; rfl
  ·rw [List.getElem?_append_right (by omega),hr,flat_get hk hw',Nat.div_eq_sub_div hk hj,Nat.mod_eq_sub_mod hj]
   rfl
theorem cellsX_ok {k m : Nat} {x : AV} {y : Value} {cs : List AV} {S : ASt} {w : World} (hk : 0 < k) (hx : RA Pr φ x y) (hR : Rel Pr φ S w) (h : cellsX k x S = some (m,cs)) :
  ∃ (ad : Addr) (c : Nat) (news : List Value),y = .slice (some ad) m c ∧ news.length = m * k ∧ (∀ j u,news[j]? = some u → w.cell? (ad.add j) = some u) ∧ (∀ u ∈ news,u.oneCell' = true) ∧ 0 < m ∧ cs.length = m * k ∧ ∀ (j : Nat) (c : AV) (z : Value),cs[j]? = some c → news[j]? = some z → RA Pr φ c z:=by
 unfold cellsX at h
 split at h
 ·rename_i d i m' k' hasl
  have hxe : x = .asl d i m' k':=by
   unfold aslA at hasl
   split at hasl
   ·cases hasl; rfl
   ·cases hasl
  subst hxe
  split at h
  ·rename_i cs0 t hS
   split at h
   ·rename_i hc
    obtain ⟨rfl,hcl,hm,hone⟩:=hc
    cases h
    obtain ⟨e,hE,htok,g,xs,hg,hheap,hl,hc,hun⟩:=hR.obj d i _ hS
    cases hx with
    | asl h1 h2 h3 h4 =>
     rw [hE] at h1; cases h1
     rw [hg] at h3; cases h3
     refine ⟨_,_,xs.toList,rfl,by rw [Array.length_toList,← hl,hcl],fun j u hu=>?_,fun u hu=>?_,hm,by rw [ups_len,hcl],fun j c z a b=>?_⟩
     ·rw [addN,Nat.zero_add,cell_blk hheap]
      simpa using hu
     ·obtain ⟨j,hj⟩:=List.getElem?_of_mem hu
      have hj' : xs[j]? = some u:=by simpa using hj
      have hjl : j < cs0.length:=by have:=(Array.getElem?_eq_some_iff.1 hj').1; omega
      exact (hc j _ u (List.getElem?_eq_getElem hjl) hj').one (List.all_eq_true.1 hone _ (List.getElem_mem hjl))
     ·rw [ups_get] at a
      obtain ⟨c0,k1,rfl⟩:=Option.map_eq_some_iff.1 a
      exact (hc j c0 z k1 (by simpa using b)).up
   ·cases h
  ·cases h
 ·split at h
  ·rename_i rows hrow
   split at h
   ·rename_i hm
    cases h
    have hy:=rowsA_ok hk hx hrow
    obtain ⟨b,off,cap,news,rfl,hw,hnl,hnews,hra⟩:=hy.cells hk hm
    have hfl : rows.flatten.length = rows.length * k:=by
     clear hy hra hnl hm hrow hx
     induction rows with
     | nil=>simp
     | cons r rs ih=>rw [List.flatten_cons,List.length_append,ih (fun q row h=>hw (q + 1) row (by simpa using h)),hw 0 r rfl,List.length_cons,Nat.add_mul]; omega
    refine ⟨_,_,news,rfl,hnl,fun j u hu=>by rw [addN]; exact hR.pr _ _ _ (hnews j u hu).1,fun u hu=>?_,hm,by rw [List.length_map,hfl],fun j c z a b=>?_⟩
    ·obtain ⟨j,hj⟩:=List.getElem?_of_mem hu
     exact (hnews j u hj).2
    ·rw [List.getElem?_map,flat_get hk hw] at a
     obtain ⟨q,h1,rfl⟩:=Option.map_eq_some_iff.1 a
     obtain ⟨row,h2,h3⟩:=Option.bind_eq_some_iff.1 h1
     obtain ⟨u,h4,h5⟩:=hra _ row _ q h2 h3
     have e : j / k * k + j % k = j:=by rw [Nat.mul_comm]; exact Nat.div_add_mod j k
     rw [e,b] at h4
     cases h4
     exact .p h5
   ·cases h
  ·cases h
theorem appR_ok {t ty : TypeId} {s x v : AV} {y z : Value} {S S' : ASt} {w : World} {lg : List (Nat × Nat)} (hs : RA Pr φ s y) (hx : RA Pr φ x z) (hR : Rel Pr φ S w) (hne : φ ≠ []) (h : appR P t s x S = some (v,S',lg)) :
  ∃ v' w' φ',(Builtin.append_ #[t,t] ty #[y,z]).run P w = .ok v' w' ∧ Stp Pr φ w Pr φ' w' ∧ Rel Pr φ' S' w' ∧ RA Pr φ' v v':=by
 unfold appR at h
 simp only at h
 split at h
 ·rename_i hok
  obtain ⟨ht,inf,zz,hi,hz,hsz,hzs,hby,hk⟩:=appOk_spec hok
  generalize hE0 : elemOfT P t = E at *
  generalize hk0 : P.cellsOf E = k at *
  have mv : ∀ {n m : Nat} {xs : List Value} {y : Value} {ad : Addr} {c : Nat} {news : List Value},n + m ≤ 4294967296 → news.length = m * k → (∀ j u,news[j]? = some u → w.cell? (ad.add j) = some u) → (∀ u ∈ news,u.oneCell' = true) → 0 < m → w.ownsRow 0 E k y n xs → AppMoves P w t t ty E k y n xs (.slice (some ad) m c) m news:=fun {n m xs y ad c news} hb hl hnews h1 hm hown=>by
   have hby' : (n + m) * inf.bytes ≤ 140737488355328:=Nat.le_trans (Nat.mul_le_mul hb hby) (by decide)
   exact append_moves w t ty E inf zz k ht hi hz hsz hzs hk y n xs hown ad m c news hl hnews h1 hm (by unfold maxLen; omega) hby'
  split at h
  ·rename_i m cs2 hcx
   obtain ⟨ad,c,news,rfl,hnl,hnews,hn1,hm,hcl,hra⟩:=cellsX_ok hk hx hR hcx
   split at h
   ·rename_i d i n k'
    split at h
    ·rename_i E' k'' n' cs cs2' hS hd
     split at h
     ·rename_i hc
      obtain ⟨rfl,rfl,rfl,rfl,hb⟩:=hc
      cases h
      have hrl : RL Pr φ cs2 news.toArray:=⟨by simp [hcl,hnl],fun j c z a b=>hra j c z a (by simpa using b)⟩
      have hdl:=downAll_ok hrl hd
      obtain ⟨v',w',φ',r1,r2,r3,r4⟩:=rel_appendR (P:=P) (t:=t) (tx:=t) (ty:=ty) (src:=.slice (some ad) m c) (news:=news) hR hS hs hm (by have:=hdl.1; rw [this]; simp [hnl]) (fun j c z a b=>hdl.2 j c z a (by simpa using b)) hb (fun xs hown=>mv hb hnl hnews hn1 hm hown)
      exact ⟨v',w',φ',r1,r2,r3,r4⟩
     ·cases h
    ·cases h
   ·split at h
    ·rename_i hb
     cases h
     have:=atomAV_ok hs rfl
     subst this
     obtain ⟨φ1,s1,r1,g1⟩:=rel_ghostR hR hne E k hk
     have hS1 : get2 (add2 (.row E k 0 []) S) 0 (top S) = some (.row E k 0 []):=get2_add_new _ _
     obtain ⟨v',w',φ',q1,q2,q3,q4⟩:=rel_appendR (P:=P) (t:=t) (tx:=t) (ty:=ty) (src:=.slice (some ad) m c) (news:=news) (cs2:=cs2) r1 hS1 g1 hm hcl (fun j c z a b=>(hra j c z a b).mono (Prot.le_refl _) s1.fl) (by omega) (fun xs hown=>mv (by omega) hnl hnews hn1 hm hown)
     refine ⟨v',w',φ',q1,s1.trans q2,?_,by simpa using q4⟩
     have e : set2 (add2 (.row E k 0 []) S) 0 (top S) (.row E k (0 + m) ([] ++ cs2)) = add2 (.row E k m cs2) S:=by
      cases S <;> simp [set2,add2,top]
     rw [← e]; exact q3
    ·cases h
   ·cases h
  ·cases h
 ·cases h
theorem evC_ok {o : Oper} {fr : List AV} {a : Act} {S S' : ASt} {w : World} {v : AV} {lg : List (Nat × Nat)} (h : RF Pr φ fr a) (hR : Rel Pr φ S w) (hne : φ ≠ []) (hv : evC P o fr S = some (v,S',lg)) : Ch P Pr φ o a w v S':=by
 unfold evC at hv
 split at hv
 ·rename_i t ho
  obtain ⟨zs,hz,hv'⟩:=Option.map_eq_some_iff.1 hv
  cases hv'
  obtain ⟨z,hz1,hz2,hz3⟩:=zeroA_ok hz
  obtain ⟨φ',s1,r1,r2⟩:=rel_alloc hR hne (zs.map fun y=>.p (.v y)) zs.toArray t (by simp) (ra_atoms hz3)
  refine ⟨_,_,_,_,.inl ?_,s1,r1,r2⟩
  simp [execOp,ho,Instr.alloc,hz1,newVar_run,hz2]
 ·rename_i t x ho
  obtain ⟨cs,hc,hv'⟩:=Option.bind_eq_some_iff.1 hv
  split at hv'
  case isFalse=>cases hv'
  cases hv'
  obtain ⟨⟨hl,hcc⟩,_⟩:=cellsAV_ok (h.ev x) hc
  obtain ⟨φ',s1,r1,r2⟩:=rel_alloc hR hne cs (a.eval x).cells t hl hcc
  refine ⟨_,_,_,_,.inl ?_,s1,r1,r2⟩
  simp [execOp,ho,Instr.box,newVar_run]
 ·rename_i t x u ho
  have hx:=h.ev x
  have hu:=h.ev u
  split at hv
  ·rename_i d i off vs he hcv
   split at hv
   ·rename_i cs T vs' hS hd
    split at hv
    ·rename_i hc
     obtain ⟨hc1,hc2,hc3⟩:=hc
     cases hv
     rw [he] at hx
     obtain ⟨hrl,hone⟩:=cellsAV_ok hu hcv
     have hdl:=downAll_ok hrl hd
     generalize hy : a.eval x = y at hx
     cases hx with
     | @ptr _ _ _ g e k1 k2 k3 =>
      have h1 : ∀ z ∈ (a.eval u).cells.toList,z.oneCell' = true:=fun z hz=>by
       obtain ⟨j,hj⟩:=List.getElem?_of_mem hz
       have hjl : j < vs.length:=by have:=(List.getElem?_eq_some_iff.1 hj).1; have:=hrl.1; simp at *; omega
       have hcj : vs[j]? = some vs[j]:=List.getElem?_eq_getElem hjl
       exact (hrl.2 j _ z hcj (by simpa using hj)).one (List.all_eq_true.1 hone _ (List.getElem_mem hjl))
      have hsz : (a.eval u).cells.toList.length = vs.length:=by simp [hrl.1]
      obtain ⟨w',w1,w2,w3⟩:=rel_stores (P:=P) vs' (a.eval u).cells.toList off cs S w hR hS k1 k3 (by rw [hdl.1]; simp) (fun j c z hc hz=>hdl.2 j c z hc (by simpa using hz)) h1 (by rw [hsz]; exact hc3) 0 off (by omega)
      refine ⟨undef,w',Pr,φ,.inr ⟨?_,rfl⟩,w2,w3,.un⟩
      have hs2 : (a.eval u).cells.size = P.cellsOf t:=by rw [← hrl.1]; exact hc1
      simp [execOp,ho,hy,Instr.storeAt,Instr.sureAddr,storeVar,run_cellsOf rfl hc2,hs2,w1]
    ·cases hv
   ·cases hv
  ·rename_i d i n off vs he hcv
   split at hv
   ·rename_i E k n' cs vs' hS hd
    split at hv
    ·rename_i hc
     obtain ⟨rfl,hc1,hc2,hc3⟩:=hc
     cases hv
     rw [he] at hx
     obtain ⟨hrl,hone⟩:=cellsAV_ok hu hcv
     have hdl:=downAll_ok hrl hd
     generalize hy : a.eval x = y at hx
     cases hx with
     | @rptr _ _ _ _ g e k1 k2 k3 k4 =>
      obtain ⟨e',hE',_,hen,_⟩:=hR.obj d i _ hS
      rw [k1] at hE'; cases hE'
      have h1 : ∀ z ∈ (a.eval u).cells.toList,z.oneCell' = true:=fun z hz=>by
       obtain ⟨j,hj⟩:=List.getElem?_of_mem hz
       have hjl : j < vs.length:=by have:=(List.getElem?_eq_some_iff.1 hj).1; have:=hrl.1; simp at *; omega
       have hcj : vs[j]? = some vs[j]:=List.getElem?_eq_getElem hjl
       exact (hrl.2 j _ z hcj (by simpa using hj)).one (List.all_eq_true.1 hone _ (List.getElem_mem hjl))
      have hsz : (a.eval u).cells.toList.length = vs.length:=by simp [hrl.1]
      obtain ⟨w',w1,w2,w3⟩:=rel_storesR (P:=P) vs' (a.eval u).cells.toList off cs S w hR hS k1 (k4 hen.symm) (by rw [hdl.1]; simp) (fun j c z hc hz=>hdl.2 j c z hc (by simpa using hz)) h1 (by rw [hsz]; exact hc3) 0 off (by omega)
      refine ⟨undef,w',Pr,φ,.inr ⟨?_,rfl⟩,w2,w3,.un⟩
      have hs2 : (a.eval u).cells.size = P.cellsOf t:=by rw [← hrl.1]; exact hc1
      simp [execOp,ho,hy,Instr.storeAt,Instr.sureAddr,storeVar,run_cellsOf rfl hc2,hs2,w1]
    ·cases hv
   ·cases hv
  ·cases hv
 ·rename_i t len parts ho
  split at hv
  ·rename_i e ht
   split at hv
   ·rename_i hc0
    obtain ⟨hk0,h0,hp0⟩:=hc0
    cases hv
    generalize hk : P.cellsOf e = k at *
    subst h0
    have hpe : parts = #[]:=Array.eq_empty_of_size_eq_zero hp0
    subst hpe
    obtain ⟨Pr',s1,r1,g1,_⟩:=rel_row hR [] k #[] e (fun r row hr=>by simp at hr) (Nat.zero_le _) (fun r row j p hr=>by simp at hr)
    refine ⟨.slice (some ⟨w.heap.size,0,none⟩) 0 0,_,Pr',φ,.inl ?_,s1,r1,.p (.fsl g1)⟩
    simp [execOp,ho,Instr.buildSlice,run_underlying ht,run_cellsOf hk hk0,newRow,Instr.fill]
    exact congrArg (fun c=>w.alloc (Obj.cells c e)) (Array.eq_empty_of_size_eq_zero (by rw [Array.size_map]; exact Array.size_range))
   split at hv
   ·rename_i hc
    obtain ⟨hk0,hlen,hbig⟩:=hc
    split at hv
    ·rename_i zs hz
     split at hv
     ·rename_i hzl
      split at hv
      ·rename_i cs hf
       obtain ⟨z,hz1,hz2,hz3⟩:=zeroA_ok hz
       generalize hk : P.cellsOf e = k at *
       have hkp : 0 < k:=Nat.pos_of_ne_zero hk0
       have h0 : RL Pr φ ((List.range (len * k)).map fun j=>.p (.v (zs.getD (j % k) undef))) ((Array.range (len * k)).map fun j=>zs.toArray[j % k]!):=by
        refine ⟨by simp,fun j c x hc hx=>?_⟩
        have hj : j < len * k:=by simpa using (List.getElem?_eq_some_iff.1 hc).1
        have hm : j % k < zs.length:=by rw [hzl]; exact Nat.mod_lt _ hkp
        simp only [List.getElem?_map,List.getElem?_range hj,Option.map_some,Option.some.injEq] at hc
        simp only [Array.getElem?_map,Array.getElem?_range,hj,if_true,Option.map_some,Option.some.injEq] at hx
        subst hc hx
        have e1 : zs.getD (j % k) undef = zs[j % k]:=by simp [hm]
        have e2 : zs.toArray[j % k]! = zs[j % k]:=by simp [hm]
        rw [e1,e2]
        exact .p (.v (List.all_eq_true.1 hz3 _ (List.getElem_mem hm)))
       obtain ⟨xs',h1,h2⟩:=fill_ok _ _ (parts.map fun q=>(q.1,a.eval q.2)).toList _ cs _ h0 (by simp) (fun j p q hp hq=>by
        rw [List.getElem?_map] at hp
        obtain ⟨q0,hq0,rfl⟩:=Option.map_eq_some_iff.1 hp
        have h0' : parts[j]? = some q0:=by simpa using hq0
        rw [Array.getElem?_toList,Array.getElem?_map,h0'] at hq
        cases hq
        exact ⟨rfl,h.ev _⟩) hf
       have hcl : cs.length = len * k:=by rw [fillA_len hf]; simp
       have hb1 : ¬ (16777216 < len * k):=by omega
       have hb2 : ¬ (len * k = 0):=by
        have : 0 < len * k:=Nat.mul_pos hlen hkp
        omega
       have e3 : ((Array.range (len * k)).map fun x=>zs[x % zs.length]?.getD default) = (Array.range (len * k)).map fun j=>zs.toArray[j % k]!:=by rw [hzl]; simp
       have hmx : len ≤ maxLen:=by unfold maxLen; have : len * 1 ≤ len * k:=Nat.mul_le_mul_left _ hkp; omega
       split at hv
       ·cases hv
        obtain ⟨φ',s1,r1,g1⟩:=rel_newE hR hne (.cells xs' e (0,0)) (.row e k len cs) ⟨true,some w.heap.size,len,len,k⟩ rfl fun φ' w' hF hw hp=>⟨rfl,rfl,rfl,hkp,hcl,.inr ⟨w.heap.size,xs',rfl,hw,by show xs'.size = len * k; have:=h2.1; omega,hlen,Nat.le_refl _,hmx,fun j c x a b=>(h2.2 j c x a b).mono (Prot.le_refl _) hF,hp⟩⟩
        refine ⟨.slice (some ⟨w.heap.size,0,none⟩) len len,_,_,_,.inl ?_,s1,r1,RA.rsl (e:=⟨true,some w.heap.size,len,len,k⟩) g1 rfl hlen (Nat.le_refl _) (fun _=>⟨rfl,rfl⟩) (Nat.le_refl _) hmx⟩
        simp [execOp,ho,Instr.buildSlice,run_underlying ht,run_cellsOf hk hk0,hb1,hb2,hz1,hz2,newRow,-Array.toList_map]
        rw [e3,h1]
        rfl
       split at hv
       case h_2 =>
        cases hv
        obtain ⟨φ',s1,r1,r2⟩:=rel_alloc hR hne cs xs' e h2.1 h2.2
        obtain ⟨e0,he0,ht0,hb0⟩ : ∃ e0,get2 φ' 0 (top S) = some e0 ∧ e0.tok = false ∧ e0.blk = some w.heap.size:=by
         cases r2 with
         | ptr a b c=>exact ⟨_,a,b,c⟩
        refine ⟨.slice (some ⟨w.heap.size,0,none⟩) len len,_,_,_,.inl ?_,s1,r1,.asl he0 ht0 hb0 (by unfold maxLen; have : len * 1 ≤ len * k:=Nat.mul_le_mul_left _ hkp; omega)⟩
        simp [execOp,ho,Instr.buildSlice,run_underlying ht,run_cellsOf hk hk0,hb1,hb2,hz1,hz2,newRow,-Array.toList_map]
        rw [e3,h1]
        rfl
       rename_i qs hq
       cases hv
       obtain ⟨hql,hqr⟩:=toPs_ok h2 hq
       have hrow : ∀ (r : Nat) (row : List PV),(rowsOf k qs len)[r]? = some row → row.length = k ∧ ∀ (j : Nat) (p : PV),row[j]? = some p → qs[r * k + j]? = some p:=fun r row hr=>by
        have hrl : r < len:=by have:=(List.getElem?_eq_some_iff.1 hr).1; rwa [rowsOf_len] at this
        have:=rowsOf_get k len qs r row hr
        subst this
        have hle : (r + 1) * k ≤ len * k:=Nat.mul_le_mul_right _ hrl
        rw [Nat.add_mul] at hle
        refine ⟨by simp; omega,fun j p hp=>?_⟩
        rw [List.getElem?_take] at hp
        split at hp
        ·rwa [List.getElem?_drop] at hp
        ·cases hp
       obtain ⟨Pr',s1,r1,g1,hPr⟩:=rel_row hR (rowsOf k qs len) k xs' e (fun r row hr=>(hrow r row hr).1) (by rw [rowsOf_len]; unfold maxLen; have : len * 1 ≤ len * k:=Nat.mul_le_mul_left _ hkp; omega)
        (fun r row j p hr hp=>by
         have hqj:=(hrow r row hr).2 j p hp
         have hlt : r * k + j < xs'.size:=by have:=(List.getElem?_eq_some_iff.1 hqj).1; have:=h2.1; omega
         exact ⟨xs'[r * k + j],Array.getElem?_eq_getElem hlt,hqr _ p _ hqj (Array.getElem?_eq_getElem hlt)⟩)
       rw [rowsOf_len] at g1
       have hxsz : xs'.size = len * k:=by have:=h2.1; omega
       obtain ⟨φ2,s2,r2,g2⟩:=rel_own hne s1 r1 hR (E:=e) hkp hlen (rowsOf_len _ _ _) (by unfold maxLen; have : len * 1 ≤ len * k:=Nat.mul_le_mul_left _ hkp; omega) hxsz (blk_new _ _) (fun o ho=>by
        have hg : Pr w.heap.size o = none:=by
         cases hv : Pr w.heap.size o with
         | none=>rfl
         | some v=>exact absurd (pr_lt hR hv) (Nat.lt_irrefl _)
        rw [hPr o,Array.getElem?_eq_none (by omega)]) g1
       refine ⟨_,_,_,_,.inl ?_,s2,r2,g2⟩
       simp [execOp,ho,Instr.buildSlice,run_underlying ht,run_cellsOf hk hk0,hb1,hb2,hz1,hz2,newRow,-Array.toList_map]
       rw [e3,h1]
       rfl
      ·cases hv
     ·cases hv
    ·cases hv
   ·cases hv
  ·cases hv
 ·rename_i c ho
  obtain ⟨callee,args,argTypes⟩:=c
  split at hv
  ·rename_i s x t t' e1 e2 e3
   simp only at e1 e2 e3
   subst e1 e2 e3
   split at hv
   ·rename_i htt
    subst htt
    split at hv
    ·obtain ⟨v',w',φ',r1,r2,r3,r4⟩:=appR_ok (ty:=o.type) (h.ev s) (h.ev x) hR hne hv
     exact ⟨v',w',Pr,φ',.inl (by simp [execOp,ho,resolve,invoke,builtin,r1]),r2,r3,r4⟩
    obtain ⟨⟨v1,S1⟩,hr,hv'⟩:=Option.map_eq_some_iff.1 hv
    cases hv'
    have key : ∀ y w',(Builtin.append_ #[t',t'] o.type #[a.eval s,a.eval x]).run P w = .ok y w' → (execOp a.eval o).run P w = .ok (.value y) w':=fun y w' hrun=>by
     simp [execOp,ho,resolve,invoke,builtin,hrun]
    unfold appA at hr
    simp only at hr
    split at hr
    ·rename_i hok
     obtain ⟨ht,inf,z,hi,hz,hs,hzs,hby,hk⟩:=appOk_spec hok
     split at hr
     ·rename_i rows2 hrow
      have hy:=rowsA_ok hk (h.ev x) hrow
      have hs:=h.ev s
      split at hr
      ·rename_i k' rows d i hse
       rw [hse] at hs
       split at hr
       ·rename_i E' k'' n hS
        split at hr
        ·rename_i hc
         obtain ⟨rfl,rfl,rfl,hn,hb⟩:=hc
         cases hr
         obtain ⟨v',w',Pr',φ',r1,r2,r3,r4⟩:=rel_app (ty:=o.type) hR hok hS hs hy hn hb
         exact ⟨v',w',Pr',φ',.inl (key _ _ r1),r2,r3,r4⟩
        ·cases hr
       ·cases hr
      ·rename_i hse
       rw [hse] at hs
       split at hr
       ·rename_i hb
        cases hr
        obtain ⟨φ1,s1,r1,g1⟩:=rel_ghost hR hne (elemOfT P t') (P.cellsOf (elemOfT P t')) hk
        have hsv:=atomAV_ok hs rfl
        have hne1 : φ1 ≠ []:=fun h0=>by have:=s1.len; rw [h0] at this; exact hne (List.eq_nil_of_length_eq_zero this.symm)
        have hS1 : get2 (add2 (.tok (elemOfT P t') (P.cellsOf (elemOfT P t')) 0) S) 0 (top S) = some (.tok (elemOfT P t') (P.cellsOf (elemOfT P t')) 0):=get2_add_new _ _
        obtain ⟨v',w',Pr',φ',q1,q2,q3,q4⟩:=rel_app (ty:=o.type) r1 hok hS1 g1 (hy.mono s1.pl) rfl (by simpa using hb)
        rw [← hsv] at q1
        refine ⟨v',w',Pr',φ',.inl (key _ _ q1),s1.trans q2,?_,by simpa using q4⟩
        have e : set2 (add2 (.tok (elemOfT P t') (P.cellsOf (elemOfT P t')) 0) S) 0 (top S) (.tok (elemOfT P t') (P.cellsOf (elemOfT P t')) (([] : List (List PV)).length + rows2.length)) = add2 (.tok (elemOfT P t') (P.cellsOf (elemOfT P t')) rows2.length) S:=by
         cases S <;> simp [set2,add2,top]
        rw [← e]; exact q3
       ·cases hr
      ·rename_i k' rows hse
       rw [hse] at hs
       split at hr
       ·rename_i hc
        obtain ⟨rfl,hm,hb⟩:=hc
        cases hr
        cases hs with
        | p hs =>
         obtain ⟨v',w',Pr',φ',q1,q2,q3,q4⟩:=rel_appF (ty:=o.type) hR hne hok hs hy hm hb
         exact ⟨v',w',Pr',φ',.inl (key _ _ q1),q2,q3,q4⟩
       ·split at hr
        ·rename_i hc
         obtain ⟨rfl,h0⟩:=hc
         cases hr
         cases hs with
         | p hs=>exact ⟨_,w,Pr,φ,.inl (key _ _ (run_appE (ty:=o.type) hok hs hy h0)),Stp.refl _ _ _,hR,.p hs.unf⟩
        ·cases hr
      ·cases hr
     ·cases hr
    ·cases hr
   ·obtain ⟨⟨v1,S1⟩,hr,hv'⟩:=Option.map_eq_some_iff.1 hv
    cases hv'
    have key : ∀ y w',(Builtin.append_ #[t,t'] o.type #[a.eval s,a.eval x]).run P w = .ok y w' → (execOp a.eval o).run P w = .ok (.value y) w':=fun y w' hrun=>by
     simp [execOp,ho,resolve,invoke,builtin,hrun]
    unfold appSA at hr
    simp only at hr
    split at hr
    ·rename_i hok
     split at hr
     ·rename_i b hstr
      have hyb:=strA_ok (h.ev x) hstr
      have hs:=h.ev s
      split at hr
      ·rename_i k' rows d i hse
       rw [hse] at hs
       split at hr
       ·rename_i E' k'' n hS
        split at hr
        ·rename_i hc
         obtain ⟨rfl,rfl,rfl,hn,hb⟩:=hc
         cases hr
         obtain ⟨v',w',Pr',φ',r1,r2,r3,r4⟩:=rel_appS (ty:=o.type) hR hok hS hs hn hb
         rw [← hyb] at r1
         exact ⟨v',w',Pr',φ',.inl (key _ _ r1),r2,r3,r4⟩
        ·cases hr
       ·cases hr
      ·rename_i hse
       rw [hse] at hs
       split at hr
       ·rename_i hb
        cases hr
        obtain ⟨φ1,s1,r1,g1⟩:=rel_ghost hR hne (elemOfT P t) 1 (by decide)
        have hsv:=atomAV_ok hs rfl
        have hS1 : get2 (add2 (.tok (elemOfT P t) 1 0) S) 0 (top S) = some (.tok (elemOfT P t) 1 0):=get2_add_new _ _
        obtain ⟨v',w',Pr',φ',q1,q2,q3,q4⟩:=rel_appS (ty:=o.type) (b:=b) r1 hok hS1 g1 rfl (by simpa using hb)
        rw [← hsv,← hyb] at q1
        refine ⟨v',w',Pr',φ',.inl (key _ _ q1),s1.trans q2,?_,by simpa using q4⟩
        have e : set2 (add2 (.tok (elemOfT P t) 1 0) S) 0 (top S) (.tok (elemOfT P t) 1 (([] : List (List PV)).length + b.size)) = add2 (.tok (elemOfT P t) 1 b.size) S:=by
         cases S <;> simp [set2,add2,top]
        rw [← e]; exact q3
       ·cases hr
      ·cases hr
     ·cases hr
    ·cases hr
  ·cases hv
 ·rename_i t ho
  cases hv
  obtain ⟨φ',s1,r1,r2⟩:=rel_newO hR hne (.map #[] 0) (.map []) fun φ' w' h1 h2=>⟨rfl,w.heap.size,#[],0,rfl,h1,rfl,fun j kv en a b=>by simp at a,h2,rfl,fun j en hj=>by simp at hj⟩
  exact ⟨_,_,_,_,.inl (by simp [execOp,ho,run_makeMap]),s1,r1,.mp r2 rfl rfl⟩
 ·rename_i t m k u ho
  obtain ⟨w',h1,h2,h3,rfl⟩:=updA_ok (P:=P) (h.ev m) (h.ev k) (h.ev u) hR hv
  exact ⟨undef,w',Pr,φ,.inr ⟨by simp [execOp,ho,h1],rfl⟩,h2,h3,.un⟩
 ·rename_i t m k u ho
  obtain ⟨w',h1,h2,h3,rfl⟩:=updA_ok (P:=P) (h.ev m) (h.ev k) (h.ev u) hR hv
  exact ⟨undef,w',Pr,φ,.inr ⟨by simp [execOp,ho,h1],rfl⟩,h2,h3,.un⟩
 ·rename_i t m k ho
  obtain ⟨z,w',h1,h2,h3,h4⟩:=entA_ok (P:=P) (h.ev m) (h.ev k) hR hv
  exact ⟨z,w',Pr,φ,.inl (by simp [execOp,ho,h1]),h2,h3,h4⟩
 ·rename_i t m st u ho
  obtain ⟨w',h1,h2,h3,rfl⟩:=entS_ok (P:=P) (T:=t) (h.ev m) (h.ev st) (h.ev u) hR hv
  exact ⟨undef,w',Pr,φ,.inr ⟨by simp [execOp,ho,h1],rfl⟩,h2,h3,.un⟩
 ·cases hv
end
end Go.Proofs.YtfiohepfohhibaaDoor
namespace Go.Proofs.YtfiohepfohhibaaDoor
open Go.RowKit
def Leads (fr : List AV) (S : ASt) (fr' : List AV) (S' : ASt) : Prop :=
 ∀ Pr φ (a : Act) w,RF Pr φ fr a → Rel Pr φ S w → φ ≠ [] → ∃ φ',Stp Pr φ w Pr φ' w ∧ RF Pr φ' fr' a ∧ Rel Pr φ' S' w ∧ top φ ≤ top φ'
theorem Leads.wk {fr fr' : List AV} {S S' : ASt} (h : wkR fr fr') (k : wkT S S') : Leads fr S fr' S':=fun Pr φ a w hf hR hne =>
 ⟨φ,Stp.refl _ _ _,hf.wk (wkR_ok h),rel_wk hR (wkT_ok k),Nat.le_refl _⟩
theorem Leads.trans {fr fr' fr'' : List AV} {S S' S'' : ASt} (h : Leads fr S fr' S') (k : Leads fr' S' fr'' S'') : Leads fr S fr'' S'':=fun Pr φ a w hf hR hne=>by
 obtain ⟨φ1,h1,h2,h3,h4⟩:=h Pr φ a w hf hR hne
 obtain ⟨φ2,k1,k2,k3,k4⟩:=k Pr φ1 a w h2 h3 (fun e=>hne (by have:=h1.len; rw [e] at this; exact List.eq_nil_of_length_eq_zero this.symm))
 exact ⟨φ2,h1.trans k1,k2,k3,Nat.le_trans h4 k4⟩
def wkN (k i : Nat) (a b : AV) : Prop:=b = .any ∨ a = b ∨ (a = .p (.v (.slice none 0 0)) ∧ b = .osl k [] 0 i)
def wkNR (k i : Nat) : List AV → List AV → Prop
 | [],[]=>True
 | a :: as,b :: bs=>wkN k i a b ∧ wkNR k i as bs
 | _,_=>False
def wkNL (k i : Nat) : List AObj → List AObj → Prop
 | [],[]=>True
 | .cells a t :: as,.cells b u :: bs=>(t = u ∧ wkNR k i a b) ∧ wkNL k i as bs
 | .dead :: as,.dead :: bs=>wkNL k i as bs
 | .map a :: as,.map b :: bs=>a = b ∧ wkNL k i as bs
 | .tok e k0 n :: as,.tok e' k' n' :: bs=>(e = e' ∧ k0 = k' ∧ n = n') ∧ wkNL k i as bs
 | .row e k0 n a :: as,.row e' k' n' b :: bs=>(e = e' ∧ k0 = k' ∧ n = n' ∧ a = b) ∧ wkNL k i as bs
 | _,_=>False
theorem wkNR_len {k i : Nat} : ∀ {a b : List AV},wkNR k i a b → a.length = b.length
 | [],[],_=>rfl
 | a :: as,b :: bs,h=>by simp [wkNR_len h.2]
 | [],_ :: _,h=>h.elim
 | _ :: _,[],h=>h.elim
theorem wkNR_get {k i : Nat} : ∀ {a b : List AV},wkNR k i a b → ∀ (j : Nat) (c : AV),b[j]? = some c → ∃ c0,a[j]? = some c0 ∧ wkN k i c0 c
 | [],[],_,j,c,h=>by simp at h
 | a :: as,b :: bs,h,j,c,hc=>by
  cases j with
  | zero=>simp at hc; subst hc; exact ⟨a,rfl,h.1⟩
  | succ j=>simpa using wkNR_get h.2 j c (by simpa using hc)
 | [],_ :: _,h,_,_,_=>h.elim
 | _ :: _,[],h,_,_,_=>h.elim
section
variable {Pr : Prot} {φ : Fi2} {w : World} {k i : Nat}
theorem wkN_ra (h0 : RA Pr φ (.osl k [] 0 i) (.slice none 0 0)) {a b : AV} {x : Value} (h : wkN k i a b) (hx : RA Pr φ a x) : RA Pr φ b x:=by
 rcases h with rfl | rfl | ⟨rfl,rfl⟩
 ·exact .any x
 ·exact hx
 ·cases hx with
  | p h=>cases h with
   | v h=>exact h0
theorem wkNO {as bs : List AObj} (h0 : RA Pr φ (.osl k [] 0 i) (.slice none 0 0)) (h : wkNL k i as bs) : as.length = bs.length ∧ ∀ (j : Nat) (o : AObj),bs[j]? = some o → ∃ o0,as[j]? = some o0 ∧ ∀ e,RelO Pr φ w o0 e → RelO Pr φ w o e:=by
 induction as generalizing bs with
 | nil =>
  cases bs with
  | nil=>exact ⟨rfl,fun j o h=>by simp at h⟩
  | cons b bs=>exact h.elim
 | cons a as ih =>
  cases bs with
  | nil=>cases a <;> exact h.elim
  | cons b bs =>
   have key : (∀ e,RelO Pr φ w a e → RelO Pr φ w b e) ∧ wkNL k i as bs:=by
    cases a with
    | raw l ob cs xs=>cases b <;> exact h.elim
    | dead =>
     cases b with
     | dead=>exact ⟨fun _ h=>h,h⟩
     | _=>exact h.elim
    | cells a t =>
     cases b with
     | cells b u =>
      obtain ⟨⟨rfl,h1⟩,h2⟩:=h
      refine ⟨fun e he=>?_,h2⟩
      obtain ⟨e0,g,xs,e1,e2,e3,e4,e5⟩:=he
      refine ⟨e0,g,xs,e1,e2,by rw [← wkNR_len h1]; exact e3,fun j c x hc hx=>?_,e5⟩
      obtain ⟨c0,hc0,hw⟩:=wkNR_get h1 j c hc
      exact wkN_ra h0 hw (e4 j c0 x hc0 hx)
     | _=>exact h.elim
    | tok E k0 n =>
     cases b with
     | tok E' k' n' =>
      obtain ⟨⟨rfl,rfl,rfl⟩,h2⟩:=h
      exact ⟨fun _ h=>h,h2⟩
     | _=>exact h.elim
    | row E k0 n c =>
     cases b with
     | row E' k' n' c' =>
      obtain ⟨⟨rfl,rfl,rfl,rfl⟩,h2⟩:=h
      exact ⟨fun _ h=>h,h2⟩
     | _=>exact h.elim
    | map es =>
     cases b with
     | map es' =>
      obtain ⟨rfl,h2⟩:=h
      exact ⟨fun _ h=>h,h2⟩
     | _=>exact h.elim
   obtain ⟨i1,i2⟩:=ih key.2
   refine ⟨by simp [i1],fun j o ho=>?_⟩
   cases j with
   | zero=>simp at ho; subst ho; exact ⟨a,rfl,key.1⟩
   | succ j=>simpa using i2 j o (by simpa using ho)
end
theorem Leads.ghost {fr fr' : List AV} {L L' : List AObj} {R : ASt} (E : TypeId) (k : Nat) (hk : 0 < k) (h : wkNR k L.length fr fr') (h2 : wkNL k L.length L L') : Leads fr (L :: R) fr' ((L' ++ [.tok E k 0]) :: R):=fun Pr φ a w hf hR hne=>by
 obtain ⟨φ',s,r,h0⟩:=rel_ghost hR hne E k hk
 have ht : top (L :: R) = L.length:=rfl
 rw [ht] at h0
 refine ⟨φ',s,⟨by rw [← wkNR_len h]; exact hf.len,fun t c x hc hx=>?_⟩,⟨fun d i o ho=>?_,r.dis,r.lt,r.pr,r.tb,?_⟩,?_⟩
 ·obtain ⟨c0,hc0,hw⟩:=wkNR_get h t c hc
  exact wkN_ra h0 hw ((hf.at_ t c0 x hc0 hx).mono s.pl s.fl)
 ·cases d with
  | succ d=>exact r.obj (d + 1) i o ho
  | zero =>
   have hwO:=wkNO (Pr:=Pr) (φ:=φ') (w:=w) h0 h2
   have ho' : (L' ++ [AObj.tok E k 0])[i]? = some o:=ho
   rcases Nat.lt_or_ge i L'.length with hi | hi
   ·rw [List.getElem?_append_left hi] at ho'
    obtain ⟨o0,h3,h4⟩:=hwO.2 i o ho'
    obtain ⟨e,he,hr⟩:=r.obj 0 i o0 (show (L ++ [AObj.tok E k 0])[i]? = some o0 by rw [List.getElem?_append_left (by rw [hwO.1]; exact hi)]; exact h3)
    exact ⟨e,he,h4 e hr⟩
   ·rw [List.getElem?_append_right hi] at ho'
    refine r.obj 0 i o (show (L ++ [AObj.tok E k 0])[i]? = some o from ?_)
    rw [List.getElem?_append_right (by rw [hwO.1]; exact hi),hwO.1]
    exact ho'
 ·rw [r.shape]
  have hwO:=wkNO (Pr:=Pr) (φ:=φ') (w:=w) h0 h2
  simp [add2,hwO.1]
 ·have h1 : top φ = top (L :: R):=top_map hR.shape
  have h2 : top φ' = top (add2 (AObj.tok E k 0) (L :: R)):=top_map r.shape
  rw [h1,h2]
  simp [add2,top]
def wkM (k i : Nat) (a b : AV) : Prop:=b = .any ∨ a = b ∨ (a = .p (.v (.slice none 0 0)) ∧ b = .rsl 0 i 0 k)
def wkMR (k i : Nat) : List AV → List AV → Prop
 | [],[]=>True
 | a :: as,b :: bs=>wkM k i a b ∧ wkMR k i as bs
 | _,_=>False
def wkML (k i : Nat) : List AObj → List AObj → Prop
 | [],[]=>True
 | .cells a t :: as,.cells b u :: bs=>(t = u ∧ wkMR k i a b) ∧ wkML k i as bs
 | .dead :: as,.dead :: bs=>wkML k i as bs
 | .map a :: as,.map b :: bs=>a = b ∧ wkML k i as bs
 | .tok e k0 n :: as,.tok e' k' n' :: bs=>(e = e' ∧ k0 = k' ∧ n = n') ∧ wkML k i as bs
 | .row e k0 n a :: as,.row e' k' n' b :: bs=>(e = e' ∧ k0 = k' ∧ n = n' ∧ a = b) ∧ wkML k i as bs
 | _,_=>False
section
variable {Pr : Prot} {φ : Fi2} {w : World} {k i : Nat}
end
end Go.Proofs.YtfiohepfohhibaaDoor
namespace Go.Proofs.YtfiohepfohhibaaDoor
open Go.RowKit
def ADet (P : Program) (K : FuncId) (args : List AV) (S : ASt) (r : AV) (S' : ASt) : Prop :=
 (∀ xs w,(callFunc K xs).run P w = .ok (.enter K xs) w) ∧ ∀ Pr φ (xs : Array Value) w,RL Pr φ args xs → Rel Pr φ S w → φ ≠ [] →
  Calls P K xs w fun e w'=>∃ x Pr' φ',e = .returned x ∧ Stp Pr φ w Pr' φ' w' ∧ Rel Pr' φ' S' w' ∧ RA Pr' φ' r x
inductive Stepped (P : Program) (o : Oper) (fr : List AV) (S : ASt) : AV → ASt → Prop
 | quiet {v : AV} : evP P o fr = some v → Stepped P o fr S v S
 | load {v : AV} {ref : Option (Nat × Nat)} : evL P o fr S = some (v,ref) → Stepped P o fr S v S
 | chain {v : AV} {S' : ASt} {lg : List (Nat × Nat)} : evC P o fr S = some (v,S',lg) → Stepped P o fr S v S'
 | call {c : Call} {f : Operand} {K : FuncId} {fsts caps : List AV} {r : AV} {S' : ASt} : o.op = .call c → c.callee = .value f → evA fr f = .fn (.func K) fsts caps → ADet P K (fsts ++ (c.args.toList.map (evA fr) ++ caps)) S r S' → Stepped P o fr S r S'
section
variable {P : Program} {Pr : Prot} {φ : Fi2}
theorem RL.append {cs ds : List AV} {xs ys : Array Value} (h : RL Pr φ cs xs) (k : RL Pr φ ds ys) : RL Pr φ (cs ++ ds) (xs ++ ys):=by
 refine ⟨by simp [h.1,k.1],fun j c x hc hx=>?_⟩
 rcases Nat.lt_or_ge j cs.length with hj | hj
 ·rw [List.getElem?_append_left hj] at hc
  rw [Array.getElem?_append_left (by rw [← h.1]; exact hj)] at hx
  exact h.2 j c x hc hx
 ·rw [List.getElem?_append_right hj] at hc
  rw [Array.getElem?_append_right (by rw [← h.1]; exact hj),← h.1] at hx
  exact k.2 _ c x hc hx
theorem stepped_ok {o : Oper} {fr : List AV} {a : Act} {S S' : ASt} {w : World} {v : AV} (h : RF Pr φ fr a) (hR : Rel Pr φ S w) (hne : φ ≠ []) (hs : Stepped P o fr S v S') {next : Act → World → Prop} {Q : Exit → Act → World → Prop}
  (hk : ∀ x w' Pr' φ',Stp Pr φ w Pr' φ' w' → Rel Pr' φ' S' w' → RA Pr' φ' v x → next (a.put o.dst x) w') : o.wp P a w next Q:=by
 cases hs with
 | quiet hv =>
  obtain ⟨x,h1,h2⟩:=evP_ok (P:=P) h hv
  simp only [Oper.wp,h2 w,Oper.upon]
  exact hk x w Pr φ (Stp.refl _ _ _) hR h1
 | load hv =>
  obtain ⟨x,w',Pr',h2,s1,r1,h1⟩:=evL_ok (P:=P) h hR hv
  simp only [Oper.wp,h2,Oper.upon]
  exact hk x w' Pr' φ s1 r1 h1
 | chain hv =>
  obtain ⟨x,w',Pr',φ',h1,h2,h3,h4⟩:=evC_ok (P:=P) h hR hne hv
  rcases h1 with h1 | ⟨h1,rfl⟩
  ·simp only [Oper.wp,h1,Oper.upon]
   exact hk x w' Pr' φ' h2 h3 h4
  ·simp only [Oper.wp,h1,Oper.upon]
   exact hk undef w' Pr' φ' h2 h3 h4
 | @call c f K fsts caps r S' ho hc hf hd =>
  obtain ⟨hK,hd⟩:=hd
  have hfv:=h.ev f
  rw [hf] at hfv
  generalize hy : a.eval f = y at hfv
  cases hfv with
  | @fn _ _ _ xs ys l1 l2 c1 c2 =>
   have hargs : RL Pr φ (fsts ++ (c.args.toList.map (evA fr) ++ caps)) (xs ++ (c.args.map a.eval ++ ys)):=by
    refine RL.append ⟨l1,c1⟩ (RL.append ⟨by simp,fun j q x hq hx=>?_⟩ ⟨l2,c2⟩)
    rw [List.getElem?_map] at hq
    obtain ⟨q0,h0,rfl⟩:=Option.map_eq_some_iff.1 hq
    have h0' : c.args[j]? = some q0:=by simpa using h0
    rw [Array.getElem?_map,h0'] at hx
    cases hx
    exact h.ev _
   have hrun : (execOp a.eval o).run P w = .ok (.enter K (xs ++ (c.args.map a.eval ++ ys))) w:=by
    simp [execOp,ho,resolve,hc,hy,Deferred.ofValue,invoke,hK,Array.append_assoc]
   simp only [Oper.wp,hrun,Oper.upon]
   refine (hd Pr φ _ w hargs hR hne).mono fun e w' he=>?_
   obtain ⟨x,Pr',φ',rfl,s1,s2,s3⟩:=he
   exact hk x w' Pr' φ' s1 s2 s3
end
def wantA (ops : Array Oper) (o : Oper) (fr : List AV) : Option Bool :=
 match o.guard with
 | none=>some true
 | some (j,want) =>
  match (ops[j]?).bind (·.dst) with
  | some t =>
   match fr[t]? with
   | some (.p (.v (.bool b)))=>some (b == want)
   | some .un=>some false
   | _=>none
  | none=>none
theorem wantA_ok {Pr : Prot} {φ : Fi2} {ops : Array Oper} {o : Oper} {fr : List AV} {a : Act} {b : Bool} (h : RF Pr φ fr a) (hw : wantA ops o fr = some b) : Region.wanted o (yielded ops a.tmps) = b:=by
 unfold wantA at hw
 unfold Region.wanted
 split at hw
 ·rename_i hg; cases hw; rw [hg]
 ·rename_i j want hg
  rw [hg]
  split at hw
  ·rename_i t ht
   have hget : ∀ c,fr[t]? = some c → ∃ x,a.tmps[t]? = some x ∧ RA Pr φ c x:=fun c hc=>by
    have hlt : t < a.tmps.size:=by rw [← h.len]; exact (List.getElem?_eq_some_iff.1 hc).1
    exact ⟨_,Array.getElem?_eq_getElem hlt,h.at_ t c _ hc (Array.getElem?_eq_getElem hlt)⟩
   split at hw
   ·rename_i b' hb
    cases hw
    obtain ⟨x,hx,hr⟩:=hget _ hb
    have:=atomAV_ok hr rfl
    subst this
    simp [yielded,ht,hx]
   ·rename_i hb
    cases hw
    obtain ⟨x,hx,hr⟩:=hget _ hb
    cases hr
    simp [yielded,ht,hx,undef]
   ·cases hw
  ·cases hw
def awpL (P : Program) (ops : Array Oper) : List Oper → List AV → ASt → (List AV → ASt → Prop) → Prop
 | [],fr,S,K=>K fr S
 | o :: os,fr,S,K =>
  match wantA ops o fr with
  | some true=>∃ v S',Stepped P o fr S v S' ∧ awpL P ops os (putA fr o.dst v) S' K
  | some false=>awpL P ops os (putA fr o.dst .un) S K
  | none=>False
def Post (Pr : Prot) (φ : Fi2) (a : Act) (w : World) (Q : Exit → List AV → ASt → Prop) : Exit → Act → World → Prop:=fun e a' w' =>
 ∃ fr' S' Pr' φ',Q e fr' S' ∧ RF Pr' φ' fr' a' ∧ Rel Pr' φ' S' w' ∧ Stp Pr φ w Pr' φ' w' ∧ a'.defers = a.defers
theorem put_defers (a : Act) (d : Option Nat) (x : Value) : (a.put d x).defers = a.defers:=by cases d <;> rfl
theorem ne_of_stp {Pr Pr' : Prot} {φ φ' : Fi2} {w w' : World} (h : Stp Pr φ w Pr' φ' w') (hne : φ ≠ []) : φ' ≠ []:=fun h0=>by
 have:=h.len; rw [h0] at this; exact hne (List.eq_nil_of_length_eq_zero this.symm)
theorem Post.trans {Pr Pr1 : Prot} {φ φ1 : Fi2} {a a1 : Act} {w w1 : World} {Q : Exit → List AV → ASt → Prop} (h : Stp Pr φ w Pr1 φ1 w1) (ha : a1.defers = a.defers) (e : Exit) (a' : Act) (w' : World) (hp : Post Pr1 φ1 a1 w1 Q e a' w') : Post Pr φ a w Q e a' w':=by
 obtain ⟨fr',S',Pr',φ',h1,h2,h3,h4,h5⟩:=hp
 exact ⟨fr',S',Pr',φ',h1,h2,h3,h.trans h4,h5.trans ha⟩
theorem awpL_ok {P : Program} {ops : Array Oper} {K : List AV → ASt → Prop} {Q : Exit → List AV → ASt → Prop} (hQ : ∀ fr S,K fr S → Q .normal fr S) {Pr0 : Prot} {φ0 : Fi2} {a0 : Act} {w0 : World} : ∀ (os : List Oper) (i : Nat),ops.toList.drop i = os → ∀ (Pr : Prot) (φ : Fi2) (fr : List AV) (a : Act) (S : ASt) (w : World),RF Pr φ fr a → Rel Pr φ S w → φ ≠ [] → Stp Pr0 φ0 w0 Pr φ w → a.defers = a0.defers → awpL P ops os fr S K →
  wpOps P ops (Post Pr0 φ0 a0 w0 Q) (List.range' i os.length) a w
 | [],i,hi,Pr,φ,fr,a,S,w,h,hR,hne,hs0,hd0,hk=>⟨fr,S,Pr,φ,hQ _ _ hk,h,hR,hs0,hd0⟩
 | o :: os,i,hi,Pr,φ,fr,a,S,w,h,hR,hne,hs0,hd0,hk=>by
  have ho : ops[i]? = some o:=by
   have : (ops.toList.drop i)[0]? = some o:=by rw [hi]; rfl
   rw [List.getElem?_drop] at this
   simpa using this
  have hi' : ops.toList.drop (i + 1) = os:=by rw [← List.drop_drop,hi]; rfl
  simp only [List.length_cons,List.range'_succ]
  rw [wpOps_cons]
  unfold wpOp
  rw [ho]
  simp only [awpL] at hk
  split at hk
  ·rename_i hw
   obtain ⟨v,S',hs,hrest⟩:=hk
   simp only [wantA_ok h hw,if_true]
   refine .inl (stepped_ok h hR hne hs fun x w' Pr' φ' s1 s2 s3=>?_)
   exact awpL_ok hQ os (i + 1) hi' Pr' φ' _ _ S' w' ((h.mono s1.pl s1.fl).put o.dst s3) s2 (ne_of_stp s1 hne) (hs0.trans s1) ((put_defers _ _ _).trans hd0) hrest
  ·rename_i hw
   simp only [wantA_ok h hw,Bool.false_eq_true,if_false]
   exact awpL_ok hQ os (i + 1) hi' Pr φ _ _ S w (h.put o.dst (Pr:=Pr) (φ:=φ) (v:=.un) (x:=undef) .un) hR hne hs0 ((put_defers _ _ _).trans hd0) hk
  ·exact hk.elim
def stepF (P : Program) (o : Oper) (fr : List AV) (S : ASt) : Option (AV × ASt) :=
 match o.op with
 | .load _ _=>(evL P o fr S).map fun r=>(r.1,S)
 | .convert _ _ _=>(evL P o fr S).map fun r=>(r.1,S)
 | .lookup _ _ _ _=>(evL P o fr S).map fun r=>(r.1,S)
 | .store _ _ _=>(evC P o fr S).map fun r=>(r.1,r.2.1)
 | .box _ _=>(evC P o fr S).map fun r=>(r.1,r.2.1)
 | .alloc _=>(evC P o fr S).map fun r=>(r.1,r.2.1)
 | .buildSlice _ _ _=>if o.type = 4294967295 then none else (evC P o fr S).map fun r=>(r.1,r.2.1)
 | .makeMap _ _=>(evC P o fr S).map fun r=>(r.1,r.2.1)
 | .mapUpdate _ _ _ _=>(evC P o fr S).map fun r=>(r.1,r.2.1)
 | .insert _ _ _ _=>(evC P o fr S).map fun r=>(r.1,r.2.1)
 | .mapEntry _ _ _=>(evC P o fr S).map fun r=>(r.1,r.2.1)
 | .entryStore _ _ _ _=>(evC P o fr S).map fun r=>(r.1,r.2.1)
 | .call c =>
  match c.callee with
  | .builtin .append=>(evC P o fr S).map fun r=>(r.1,r.2.1)
  | .builtin _=>(evP P o fr).map fun v=>(v,S)
  | _=>none
 | _=>(evP P o fr).map fun v=>(v,S)
def callA (o : Oper) (fr : List AV) : Option (FuncId × List AV) :=
 match o.op with
 | .call c =>
  match c.callee with
  | .value f =>
   match evA fr f with
   | .fn (.func K) fsts caps=>some (K,fsts ++ (c.args.toList.map (evA fr) ++ caps))
   | _=>none
  | _=>none
 | _=>none
theorem stepF_ok {P : Program} {o : Oper} {fr : List AV} {S S' : ASt} {v : AV} (h : stepF P o fr S = some (v,S')) : Stepped P o fr S v S':=by
 have hc : ∀ {o : Oper},(evC P o fr S).map (fun r=>(r.1,r.2.1)) = some (v,S') → Stepped P o fr S v S':=fun h=>by
  obtain ⟨⟨v1,S1,lg⟩,h1,h2⟩:=Option.map_eq_some_iff.1 h
  cases h2
  exact .chain h1
 have hp : ∀ {o : Oper},(evP P o fr).map (fun v=>(v,S)) = some (v,S') → Stepped P o fr S v S':=fun h=>by
  obtain ⟨v1,h1,h2⟩:=Option.map_eq_some_iff.1 h
  cases h2
  exact .quiet h1
 unfold stepF at h
 split at h
 ·obtain ⟨⟨v1,ref⟩,h1,h2⟩:=Option.map_eq_some_iff.1 h
  cases h2
  exact .load h1
 ·obtain ⟨⟨v1,ref⟩,h1,h2⟩:=Option.map_eq_some_iff.1 h
  cases h2
  exact .load h1
 ·obtain ⟨⟨v1,ref⟩,h1,h2⟩:=Option.map_eq_some_iff.1 h
  cases h2
  exact .load h1
 ·exact hc h
 ·exact hc h
 ·exact hc h
 ·split at h
  ·cases h
  ·exact hc h
 ·exact hc h
 ·exact hc h
 ·exact hc h
 ·exact hc h
 ·exact hc h
 ·split at h
  ·exact hc h
  ·exact hp h
  ·cases h
 ·exact hp h
theorem callA_ok {P : Program} {o : Oper} {fr : List AV} {S S' : ASt} {r : AV} {K : FuncId} {args : List AV} (h : callA o fr = some (K,args)) (hd : ADet P K args S r S') : Stepped P o fr S r S':=by
 unfold callA at h
 split at h
 ·rename_i c ho
  split at h
  ·rename_i f hf
   split at h
   ·rename_i K' fsts caps he
    cases h
    exact .call ho hf he hd
   ·cases h
  ·cases h
 ·cases h
def awpF (P : Program) (ops : Array Oper) : List Oper → List AV → ASt → (List AV → ASt → Prop) → Prop
 | [],fr,S,K=>K fr S
 | o :: os,fr,S,K =>
  match wantA ops o fr with
  | some true =>
   match callA o fr with
   | some (F,args)=>∃ r S',ADet P F args S r S' ∧ awpF P ops os (putA fr o.dst r) S' K
   | none =>
    match stepF P o fr S with
    | some (v,S')=>awpF P ops os (putA fr o.dst v) S' K
    | none=>False
  | some false=>awpF P ops os (putA fr o.dst .un) S K
  | none=>False
theorem awpF_L {P : Program} {ops : Array Oper} {K : List AV → ASt → Prop} : ∀ (os : List Oper) (fr : List AV) (S : ASt),awpF P ops os fr S K → awpL P ops os fr S K
 | [],fr,S,h=>h
 | o :: os,fr,S,h=>by
  simp only [awpF] at h
  simp only [awpL]
  split at h
  ·rename_i hw
   split at h
   ·rename_i F args hc
    obtain ⟨r,S',h1,h2⟩:=h
    exact ⟨r,S',callA_ok hc h1,awpF_L os _ _ h2⟩
   ·split at h
    ·rename_i v S' hs
     exact ⟨v,S',stepF_ok hs,awpF_L os _ _ h⟩
    ·exact h.elim
  ·rename_i hw
   exact awpF_L os _ _ h
  ·exact h.elim
def LoopQ {α : Type} (I : α → Prop) (F : α → List AV) (G : α → ASt) (μ : α → Nat) (m n : Nat) (Q : Exit → List AV → ASt → Prop) : Exit → List AV → ASt → Prop:=fun e fr' S' =>
 match e with
 | .normal=>∃ a',I a' ∧ μ a' < m ∧ wkR (AV.cuts n fr') (F a') ∧ wkT (trim n S') (G a')
 | e=>Q e fr' S'
def LoopN {α : Type} (I : α → Prop) (F : α → List AV) (G : α → ASt) (μ : α → Nat) (m : Nat) (n : α → Nat) (Q : Exit → List AV → ASt → Prop) : Exit → List AV → ASt → Prop:=fun e fr' S' =>
 match e with
 | .normal=>∃ a',I a' ∧ μ a' < m ∧ wkR (AV.cuts (n a') fr') (F a') ∧ wkT (trim (n a') S') (G a')
 | e=>Q e fr' S'
def ALoop (body : List AV → ASt → (Exit → List AV → ASt → Prop) → Prop) (fr : List AV) (S : ASt) (Q : Exit → List AV → ASt → Prop) : Prop :=
 ∃ (α : Type) (I : α → Prop) (F : α → List AV) (G : α → ASt) (μ : α → Nat) (a0 : α) (n : α → Nat),I a0 ∧ Leads fr S (F a0) (G a0) ∧ (∀ a,I a → top (G a0) ≤ n a) ∧ ∀ a,I a → body (F a) (G a) (LoopN I F G μ (μ a) n Q)
def ARegion (P : Program) (ops : Array Oper) (fr : List AV) (S : ASt) (Q : Exit → List AV → ASt → Prop) : Prop :=
 ∀ Pr0 φ0 a0 w0 Pr φ a w,RF Pr φ fr a → Rel Pr φ S w → φ ≠ [] → Stp Pr0 φ0 w0 Pr φ w → a.defers = a0.defers → wpAny P .any ops (Post Pr0 φ0 a0 w0 Q) ops.size (Array.replicate ops.size false) a w
def awp (P : Program) : Code → List AV → ASt → (Exit → List AV → ASt → Prop) → Prop
 | .skip,fr,S,Q=>Q .normal fr S
 | .region _ ops draw,fr,S,Q=>if draw = true then ARegion P ops fr S Q else awpF P ops ops.toList fr S (Q .normal)
 | .seq a b,fr,S,Q=>awp P a fr S fun e fr S =>
  match e with
  | .normal=>awp P b fr S Q
  | e=>Q e fr S
 | .cond c t e,fr,S,Q =>
  match evA fr c with
  | .p (.v (.bool b))=>if b = true then awp P t fr S Q else awp P e fr S Q
  | .bl=>awp P t fr S Q ∧ awp P e fr S Q
  | _=>False
 | .block id body,fr,S,Q=>awp P body fr S fun e fr S =>
  match e with
  | .exit j=>if j = id then Q .normal fr S else Q (.exit j) fr S
  | e=>Q e fr S
 | .loop body,fr,S,Q=>ALoop (awp P body) fr S Q
 | .exit id,fr,S,Q=>Q (.exit id) fr S
 | .label _,fr,S,Q=>Q .normal fr S
 | .ret,fr,S,Q=>Q .ret fr S
 | _,_,_,_=>False
theorem awp_ok {P : Program} (hm : P.follows .mixedOrders = true) : ∀ (c : Code) (Q : Exit → List AV → ASt → Prop) (Pr : Prot) (φ : Fi2) (fr : List AV) (a : Act) (S : ASt) (w : World),RF Pr φ fr a → Rel Pr φ S w → φ ≠ [] → awp P c fr S Q → c.wp P (Post Pr φ a w Q) a w
 | .skip,Q,Pr,φ,fr,a,S,w,h,hR,hne,hk=>wp_skip ⟨fr,S,Pr,φ,hk,h,hR,Stp.refl _ _ _,rfl⟩
 | .label l,Q,Pr,φ,fr,a,S,w,h,hR,hne,hk=>wp_label ⟨fr,S,Pr,φ,hk,h,hR,Stp.refl _ _ _,rfl⟩
 | .exit id,Q,Pr,φ,fr,a,S,w,h,hR,hne,hk=>wp_exit ⟨fr,S,Pr,φ,hk,h,hR,Stp.refl _ _ _,rfl⟩
 | .ret,Q,Pr,φ,fr,a,S,w,h,hR,hne,hk=>wp_ret ⟨fr,S,Pr,φ,hk,h,hR,Stp.refl _ _ _,rfl⟩
 | .region id ops draw,Q,Pr,φ,fr,a,S,w,h,hR,hne,hk=>by
  cases draw with
  | true =>
   have hk' : ARegion P ops fr S Q:=hk
   obtain ⟨s1,r1⟩:=rel_drew hR (w.drawn + 1)
   exact wp_region_any hm (hk' Pr φ a w Pr φ a _ h r1 hne s1 rfl)
  | false =>
   have hk' : awpL P ops ops.toList fr S (Q .normal):=awpF_L _ _ _ hk
   refine wp_region ?_
   have:=awpL_ok (Q:=Q) (fun _ _ h=>h) ops.toList 0 rfl Pr φ fr a S w h hR hne (Stp.refl _ _ _) rfl hk'
   rwa [List.range_eq_range',← Array.length_toList]
 | .seq x y,Q,Pr,φ,fr,a,S,w,h,hR,hne,hk=>by
  refine wp_seq (wp_mono (awp_ok hm x _ Pr φ fr a S w h hR hne hk) fun e a' w' hp=>?_)
  obtain ⟨fr',S',Pr',φ',h1,h2,h3,h4,h5⟩:=hp
  cases e with
  | normal=>exact wp_mono (awp_ok hm y Q Pr' φ' fr' a' S' w' h2 h3 (ne_of_stp h4 hne) h1) fun e a'' w'' hp=>Post.trans h4 h5 e a'' w'' hp
  | _=>exact ⟨fr',S',Pr',φ',h1,h2,h3,h4,h5⟩
 | .cond c t e,Q,Pr,φ,fr,a,S,w,h,hR,hne,hk=>by
  simp only [awp] at hk
  split at hk
  ·rename_i b hb
   have hc:=atomAV_ok (h.ev c) (by rw [hb]; rfl)
   refine wp_cond hc ?_
   cases b with
   | true=>exact awp_ok hm t Q Pr φ fr a S w h hR hne hk
   | false=>exact awp_ok hm e Q Pr φ fr a S w h hR hne hk
  ·rename_i hb
   have hc:=h.ev c
   rw [hb] at hc
   generalize hy : a.eval c = y at hc
   cases hc with
   | bl b =>
    refine wp_cond hy ?_
    cases b with
    | true=>exact awp_ok hm t Q Pr φ fr a S w h hR hne hk.1
    | false=>exact awp_ok hm e Q Pr φ fr a S w h hR hne hk.2
  ·exact hk.elim
 | .block id body,Q,Pr,φ,fr,a,S,w,h,hR,hne,hk=>by
  refine wp_block (wp_mono (awp_ok hm body _ Pr φ fr a S w h hR hne hk) fun e a' w' hp=>?_)
  obtain ⟨fr',S',Pr',φ',h1,h2,h3,h4,h5⟩:=hp
  cases e with
  | exit j =>
   simp only [Exit.inBlock]
   simp only at h1
   split
   ·rename_i hj
    rw [if_pos hj] at h1
    exact ⟨fr',S',Pr',φ',h1,h2,h3,h4,h5⟩
   ·rename_i hj
    rw [if_neg hj] at h1
    exact ⟨fr',S',Pr',φ',h1,h2,h3,h4,h5⟩
  | _=>exact ⟨fr',S',Pr',φ',h1,h2,h3,h4,h5⟩
 | .loop body,Q,Pr,φ,fr,a,S,w,h,hR,hne,hk=>by
  obtain ⟨α,I,F,G,μ,a0,n,hI,hw,hn,hb⟩:=hk
  obtain ⟨φs,s0,hfs,hRs,hts⟩:=hw Pr φ a w h hR hne
  have hn2 : top φs = top (G a0):=top_map hRs.shape
  refine wp_loop_ghost (fun k a1 w1=>∃ m Pr1 φ1,I m ∧ μ m = k ∧ RF Pr1 φ1 (F m) a1 ∧ Rel Pr1 φ1 (G m) w1 ∧ Stp Pr φ w Pr1 φ1 w1 ∧ a1.defers = a.defers) (μ a0) ⟨a0,Pr,φs,hI,rfl,hfs,hRs,s0,rfl⟩ ?_
  rintro k a1 w1 ⟨m,Pr1,φ1,hIm,rfl,hf,hr,hs,hd⟩
  refine wp_mono (awp_ok hm body _ Pr1 φ1 (F m) a1 (G m) w1 hf hr (ne_of_stp hs hne) (hb m hIm)) fun e a2 w2 hp=>?_
  obtain ⟨fr',S',Pr2,φ2,h1,h2,h3,h4,h5⟩:=hp
  cases e with
  | normal =>
   obtain ⟨m',hI',hlt,hwf,hws⟩:=h1
   have hs2:=hs.trans h4
   have hne2 : φ2 ≠ []:=ne_of_stp hs2 hne
   obtain ⟨l2,φr,rfl⟩:=List.exists_cons_of_ne_nil hne2
   obtain ⟨l0,φ0,rfl⟩:=List.exists_cons_of_ne_nil hne
   have hS' : S' ≠ []:=fun h0=>by have:=h3.shape; rw [h0] at this; simp at this
   obtain ⟨L',SR,rfl⟩:=List.exists_cons_of_ne_nil hS'
   have hl0 : l0.length ≤ n m':=Nat.le_trans (Nat.le_trans hts (Nat.le_of_eq hn2)) (hn m' hI')
   have hf2 : RF Pr2 (l2.take (n m') :: φr) (AV.cuts (n m') fr') a2:=⟨by rw [cuts_len]; exact h2.len,fun t c x hc hx=>by
    rw [cuts_get] at hc
    obtain ⟨c0,h0,rfl⟩:=Option.map_eq_some_iff.1 hc
    exact (h2.at_ t c0 x h0 hx).cut⟩
   exact ⟨μ m',hlt,m',Pr2,l2.take (n m') :: φr,hI',rfl,hf2.wk (wkR_ok hwf),rel_wk (rel_trim h3 (n m')) (wkT_ok hws),stp_trim hs2 hl0,h5.trans hd⟩
  | _=>exact ⟨fr',S',Pr2,φ2,h1,h2,h3,hs.trans h4,h5.trans hd⟩
 | .scope _,Q,Pr,φ,fr,a,S,w,h,hR,hne,hk=>hk.elim
 | .rangeFunc _ _ _ _,Q,Pr,φ,fr,a,S,w,h,hR,hne,hk=>hk.elim
 | .goto _,Q,Pr,φ,fr,a,S,w,h,hR,hne,hk=>hk.elim
 | .refuse _,Q,Pr,φ,fr,a,S,w,h,hR,hne,hk=>hk.elim
end Go.Proofs.YtfiohepfohhibaaDoor
namespace Go.Proofs.YtfiohepfohhibaaDoor
open Go.RowKit
def resOne (P : Program) (fr : List AV) (S : ASt) : ResultVar → Option AV
 | .tmp t=>some (evA fr (.tmp t))
 | .cell a t =>
  match evA fr (.tmp a) with
  | .ptr d i o =>
   match get2 S d i with
   | some (.cells cs _)=>(partV P t cs o).map (AV.up d)
   | _=>none
  | _=>none
def resA (P : Program) (fr : List AV) (S : ASt) : List ResultVar → Option (List AV)
 | []=>some []
 | r :: rs =>
  match resOne P fr S r,resA P fr S rs with
  | some v,some vs=>some (v :: vs)
  | _,_=>none
def retA : List AV → AV
 | [v]=>v
 | vs=>if vs = [] then .un else .tup vs
def RetOk (P : Program) (rs : List ResultVar) (r : AV) (S' : ASt) : Exit → List AV → ASt → Prop:=fun e fr S1 =>
 (e = .normal ∨ e = .ret) ∧ ∃ vs,resA P fr S1 rs = some vs ∧ (retA vs).down 1 = some r ∧ S1.tail = S'
def oneRes (tmps : Array Value) : ResultVar → Sem Value
 | .tmp t=>pure (tmps.getD t undef)
 | .cell b t=>do loadVar t (← asAddr (tmps.getD b undef))
theorem results_eq (fn : Func) (tmps : Array Value) : results fn tmps = (do let vs ← fn.results.mapM (oneRes tmps); pure (if h : vs.size = 1 then vs[0] else .tuple vs)):=by
 unfold results
 congr 1
section
variable {P : Program} {Pr : Prot} {φ : Fi2}
theorem resOne_ok {r : ResultVar} {fr : List AV} {a : Act} {S : ASt} {w : World} {v : AV} (h : RF Pr φ fr a) (hR : Rel Pr φ S w) (hr : resOne P fr S r = some v) :
  ∃ x,RA Pr φ v x ∧ (oneRes a.tmps r).run P w = .ok x w:=by
 cases r with
 | tmp t =>
  simp only [resOne,Option.some.injEq] at hr
  subst hr
  exact ⟨_,h.ev (.tmp t),rfl⟩
 | cell b t =>
  simp only [resOne] at hr
  have hx:=h.ev (.tmp b)
  split at hr
  ·rename_i d i o he
   rw [he] at hx
   split at hr
   ·rename_i cs T hS
    obtain ⟨v0,hp,rfl⟩:=Option.map_eq_some_iff.1 hr
    obtain ⟨e,hE,htok,g,xs,hg,hheap,hl,hc,hun⟩:=hR.obj d i _ hS
    generalize hy : a.eval (.tmp b) = y at hx
    cases hx with
    | ptr h1 h2 h3 =>
     rw [hE] at h1; cases h1
     rw [hg] at h3; cases h3
     obtain ⟨z,k1,k2⟩:=load_part (w:=w) (g:=g) (o:=o) hl hc (fun j x hx=>by rw [cell_blk hheap]; exact hx) hp
     refine ⟨z,k1.up,?_⟩
     have hy' : a.tmps.getD b undef = .pointer (some ⟨g,o,none⟩):=hy
     simp only [Instr.loadAt,Instr.sureAddr,Sem.run_bind,Sem.run_pure,Result.andThen_ok] at k2
     simp only [oneRes,hy',asAddr,Sem.run_bind,Sem.run_pure,Result.andThen_ok]
     exact k2
   ·cases hr
  ·cases hr
theorem results_ok {fn : Func} {fr : List AV} {a : Act} {S : ASt} {w : World} {vs : List AV} (h : RF Pr φ fr a) (hR : Rel Pr φ S w) (hr : resA P fr S fn.results.toList = some vs) : ∃ x,RA Pr φ (retA vs) x ∧ (results fn a.tmps).run P w = .ok x w:=by
 have key : ∀ (rs : List ResultVar) (vs : List AV),resA P fr S rs = some vs → ∃ xs : List Value,RL Pr φ vs xs.toArray ∧ (rs.mapM (oneRes a.tmps)).run P w = .ok xs w:=by
  intro rs
  induction rs with
  | nil=>intro vs h; simp [resA] at h; subst h; exact ⟨[],⟨rfl,fun j c x h=>by simp at h⟩,by simp⟩
  | cons r rs ih =>
   intro vs hv
   simp only [resA] at hv
   split at hv
   ·rename_i v vs' h1 h2
    cases hv
    obtain ⟨xs,h3,h4⟩:=ih vs' h2
    obtain ⟨x,h5,h6⟩:=resOne_ok (P:=P) h hR h1
    refine ⟨x :: xs,⟨by simpa using h3.1,fun j c y hc hy=>?_⟩,?_⟩
    ·cases j with
     | zero=>simp at hc hy; subst hc hy; exact h5
     | succ j=>exact h3.2 j c y (by simpa using hc) (by simpa using hy)
    ·rw [List.mapM_cons]
     simp only [Sem.run_bind,Sem.run_pure]
     rw [h6]
     simp only [Result.andThen_ok,h4]
   ·cases hv
 obtain ⟨xs,h1,h2⟩:=key _ _ hr
 have h3 : (fn.results.mapM (oneRes a.tmps)).run P w = .ok xs.toArray w:=by
  have e : (fn.results.mapM (oneRes a.tmps)) = List.toArray <$> (fn.results.toList.mapM (oneRes a.tmps)):=by
   rw [← Array.toList_mapM,← comp_map]
   have : (List.toArray ∘ Array.toList : Array Value → Array Value) = id:=by funext a; simp
   rw [this,id_map]
  rw [e]
  simp only [Sem.run_map,h2,Result.andThen_ok]
 rw [results_eq]
 match vs,xs,h1 with
 | [v],[x],h1=>exact ⟨x,h1.2 0 v x rfl rfl,by simp only [Sem.run_bind]; rw [h3]; simp⟩
 | [],[],h1=>exact ⟨.tuple #[],.un,by simp only [Sem.run_bind]; rw [h3]; simp⟩
 | v :: v' :: vs,x :: x' :: xs,h1=>exact ⟨.tuple (x :: x' :: xs).toArray,by simp only [retA,reduceCtorEq,if_false]; exact .tup h1.1 h1.2,by simp only [Sem.run_bind]; rw [h3]; simp⟩
 | [],x :: xs,h1=>have:=h1.1; simp at this
 | [v],[],h1=>have:=h1.1; simp at this
 | [v],x :: x' :: xs,h1=>have:=h1.1; simp at this
 | v :: v' :: vs,[],h1=>have:=h1.1; simp at this
 | v :: v' :: vs,[x],h1=>have:=h1.1; simp at this
theorem ADet.intro {K : FuncId} {args : List AV} {S S' : ASt} {r : AV} {fn : Func} {c : Code} (hm : P.follows .mixedOrders = true) (hK : ∀ xs w,(callFunc K xs).run P w = .ok (.enter K xs) w) (hf : P.funcs[K]? = some fn) (hb : fn.body = some c)
  (h : awp P c (AV.ups 1 args ++ List.replicate (fn.ntmps - args.length) .un) ([] :: S) (RetOk P fn.results.toList r S')) : ADet P K args S r S':=by
 refine ⟨hK,fun Pr φ xs w hargs hR hne=>?_⟩
 refine calls_of_wp hf hb ?_
 have hfr : RF Pr ([] :: φ) (AV.ups 1 args ++ List.replicate (fn.ntmps - args.length) .un) { tmps:=xs ++ Array.replicate (fn.ntmps - xs.size) undef,defers:=[] }:=by
  refine ⟨by simp [ups_len,hargs.1],fun t v x hv hx=>?_⟩
  rcases Nat.lt_or_ge t args.length with ht | ht
  ·rw [List.getElem?_append_left (by rw [ups_len]; exact ht),ups_get] at hv
   obtain ⟨v0,h0,rfl⟩:=Option.map_eq_some_iff.1 hv
   simp only at hx
   rw [Array.getElem?_append_left (by rw [← hargs.1]; exact ht)] at hx
   exact RA.up (k:=1) (hargs.2 t v0 x h0 hx)
  ·rw [List.getElem?_append_right (by rw [ups_len]; exact ht)] at hv
   simp only at hx
   rw [Array.getElem?_append_right (by rw [← hargs.1]; exact ht)] at hx
   rw [List.getElem?_replicate] at hv
   rw [Array.getElem?_replicate] at hx
   split at hv
   ·split at hx
    ·cases hv; cases hx; exact .un
    ·cases hx
   ·cases hv
 refine wp_mono (awp_ok hm c _ Pr ([] :: φ) _ _ ([] :: S) w hfr (rel_push hR) (by simp) h) fun e a' w' hp=>?_
 obtain ⟨fr',S1,Pr',φ',⟨he,vs,h1,h2,h3⟩,h4,h5,h6,h7⟩:=hp
 obtain ⟨x,hx,hrun⟩:=results_ok (P:=P) (fn:=fn) h4 h5 h1
 have hne' : φ' ≠ []:=ne_of_stp h6 (by simp)
 obtain ⟨l',φ1,rfl⟩:=List.exists_cons_of_ne_nil hne'
 have hS1 : S1 ≠ []:=fun h0=>by have:=h5.shape; rw [h0] at this; simp at this
 obtain ⟨L',S2,rfl⟩:=List.exists_cons_of_ne_nil hS1
 simp only [List.tail_cons] at h3
 subst h3
 have key : a'.defers = [] ∧ ∃ v,(results fn a'.tmps).run P w' = .ok v w' ∧ ∃ x Pr' φ',Ending.returned v = .returned x ∧ Stp Pr φ w Pr' φ' w' ∧ Rel Pr' φ' S2 w' ∧ RA Pr' φ' r x :=
  ⟨h7,x,hrun,x,Pr',φ1,rfl,stp_pop h6,rel_pop h5,hx.down r h2⟩
 rcases he with rfl | rfl
 ·exact key
 ·exact key
theorem ADet.assume {K : FuncId} {args : List AV} {S S' : ASt} {r : AV} {p : Prop} (hK : ∀ xs w,(callFunc K xs).run P w = .ok (.enter K xs) w) (hp : ∀ (Pr : Prot) (φ : Fi2) (xs : Array Value),RL Pr φ args xs → p) (h : p → ADet P K args S r S') : ADet P K args S r S' :=
 ⟨hK,fun Pr φ xs w hargs hR hne=>(h (hp Pr φ xs hargs)).2 Pr φ xs w hargs hR hne⟩
theorem RP.len {k : Nat} {rows : List (List PV)} {x : Value} (h : RP Pr (.sl k rows) x) : rows.length ≤ maxLen:=by
 cases h with
 | slemp=>simp
 | sl vs h1 h2=>omega
theorem RA.len {k : Nat} {rows : List (List PV)} {x : Value} (h : RA Pr φ (.p (.sl k rows)) x) : rows.length ≤ maxLen:=by
 cases h with
 | p h=>exact h.len
theorem rl_at {cs : List AV} {xs : Array Value} {j : Nat} {c : AV} (h : RL Pr φ cs xs) (hj : cs[j]? = some c) : ∃ x,RA Pr φ c x:=by
 have hlt : j < xs.size:=by rw [← h.1]; exact (List.getElem?_eq_some_iff.1 hj).1
 exact ⟨_,h.2 j c _ hj (Array.getElem?_eq_getElem hlt)⟩
theorem ra_at {cs : List AV} {x : Value} {j : Nat} {c : AV} (h : RA Pr φ (.agg cs) x) (hj : cs[j]? = some c) : ∃ y,RA Pr φ c y:=by
 cases h with
 | agg h1 h2=>exact rl_at ⟨h1,h2⟩ hj
def PVok (p : PV) : Prop:=∃ Pr x,RP Pr p x
theorem PVok.len {k : Nat} {rows : List (List PV)} (h : PVok (.sl k rows)) : rows.length ≤ maxLen:=by obtain ⟨_,_,h⟩:=h; exact h.len
theorem PVok.sub {k : Nat} {rows : List (List PV)} (h : PVok (.sl k rows)) {row : List PV} {p : PV} (hr : row ∈ rows) (hp : p ∈ row) : PVok p:=by
 obtain ⟨Pr,x,h⟩:=h
 obtain ⟨r,hr⟩:=List.getElem?_of_mem hr
 obtain ⟨j,hp⟩:=List.getElem?_of_mem hp
 cases h with
 | slemp=>simp at hr
 | sl vs h1 h2 h3 h4 h5=>exact ⟨Pr,_,h5 r row j p hr hp⟩
theorem ADet.okA {K : FuncId} {args : List AV} {S S' : ASt} {r : AV} {cs : List AV} {p : PV} (hK : ∀ xs w,(callFunc K xs).run P w = .ok (.enter K xs) w) (j i : Nat) (hj : args[j]? = some (.agg cs)) (hi : cs[i]? = some (.p p)) (h : PVok p → ADet P K args S r S') : ADet P K args S r S' :=
 ADet.assume hK (fun Pr φ xs hx=>by
  obtain ⟨x,h1⟩:=rl_at hx hj
  obtain ⟨y,h2⟩:=ra_at h1 hi
  cases h2 with
  | p h=>exact ⟨Pr,y,h⟩) h
theorem ADet.calls {K : FuncId} {args : List AV} {r : AV} (h : ADet P K args [[]] r [[]]) {xs : Array Value} {w : World} (hargs : RL Pr [[]] args xs) (hpr : ∀ b o v,Pr b o = some v → w.cell? ⟨b,o,none⟩ = some v) (htb : TabsP Pr [[]] w) :
  Calls P K xs w fun e w'=>∃ x Pr',e = .returned x ∧ Pr.le Pr' ∧ (∃ φ',RA Pr' φ' r x) ∧ Below w.heap.size w w':=by
 have hR : Rel Pr [[]] [[]] w:=⟨fun d i o ho=>by
   cases d with
   | zero=>simp [get2] at ho
   | succ d=>simp [get2] at ho,fun d i e d' i' e' g h1=>by
   cases d with
   | zero=>simp [get2] at h1
   | succ d=>simp [get2] at h1,fun d i e g h1=>by
   cases d with
   | zero=>simp [get2] at h1
   | succ d=>simp [get2] at h1,hpr,htb,rfl⟩
 refine (h.2 Pr [[]] xs w hargs hR (by simp)).mono fun e w' hp=>?_
 obtain ⟨x,Pr',φ',rfl,h1,h2,h3⟩:=hp
 exact ⟨x,Pr',rfl,h1.pl,⟨φ',h3⟩,h1.fr.os,h1.fr.tape,h1.fr.output,h1.fr.size,fun g hg=>h1.fr.block g hg fun d i e he=>by
  cases d with
  | zero=>simp [get2] at he
  | succ d=>simp [get2] at he⟩
end
end Go.Proofs.YtfiohepfohhibaaDoor
