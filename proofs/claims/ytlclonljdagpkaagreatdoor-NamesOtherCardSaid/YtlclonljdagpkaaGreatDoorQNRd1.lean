/- A part of the proof. The statement is proved in the claim's last text. -/
import Derived.Test.YtlclonljdagpkaaGreatDoorQMLe
import Derived.Test.YtlclonljdagpkaaGreatDoorQMLd
import Derived.Test.YtlclonljdagpkaaGreatDoorQNRa1
import Derived.Test.YtlclonljdagpkaaGreatDoorQNQk
set_option linter.unusedVariables false
set_option linter.unusedSimpArgs false
set_option maxRecDepth 100000
set_option maxHeartbeats 32000000
namespace Go.Proofs.YtlclonljdagpkaaGreatDoor
open Go.RowKit
theorem ADet.lendRow {P : Program} {K : FuncId} {args args' : List AV} {L : List AObj} {R : ASt} {c n k : Nat} {E : TypeId} {cs : List AV} (h : ADet P K args' [[]] (.rsl 0 c n k) [List.replicate c .dead ++ [.row E k n cs]])
  (hcs : ∀ v ∈ cs,∃ x,v = .p (.v x) /\ atom x = true) (hl : LentL (L :: R) args args') : ADet P K args (L :: R) (.rsl 0 (L.length + c) n k) ((L ++ (List.replicate c .dead ++ [.row E k n cs])) :: R) :=
 ⟨h.1,fun Pr φ xs w hargs hR hne=>by
  have hrl:=hl.rl hR
  have no : ∀ {d i : Nat} {e : Ent},get2 ([[]] : Fi2) d i = some e -> False:=fun {d i e} h=>by
   cases d with
   | zero=>simp [get2] at h
   | succ d=>simp [get2] at h
  have hR0 : Rel (zBf w) [[]] [[]] w:=⟨fun d i o ho=>by
   cases d with
   | zero=>simp [get2] at ho
   | succ d=>simp [get2] at ho,fun d i e d' i' e' g h1=>(no h1).elim,fun d i e g h1=>(no h1).elim,fun b o v h=>h,zMN hR,rfl⟩
  refine (h.2 (zBf w) [[]] xs w ⟨hrl.1 ▸ hargs.1,fun j c y hc hy=>hrl.2 j c y hc fun a ha=>hargs.2 j a y ha hy⟩ hR0 (by simp)).mono fun e w' hp=>?_
  obtain ⟨x,Pr',φ',rfl,hs,hr,hx⟩:=hp
  have hblk : ∀ g,g < w.heap.size -> w'.heap[g]? = w.heap[g]?:=fun g hg=>hs.fr.block g hg fun d i e he=>(no he).elim
  obtain ⟨l,φ0,rfl⟩:=List.exists_cons_of_ne_nil hne
  have hsh:=hR.shape
  simp only [List.map_cons,List.cons.injEq] at hsh
  obtain ⟨hlL,hsR⟩:=hsh
  obtain ⟨l1,rfl⟩ : ∃ l1,φ' = [l1]:=by
   have:=hs.len
   match φ',this with
   | [l1],_=>exact ⟨l1,rfl⟩
  have hl1 : l1.length = c + 1:=by have:=hr.shape; simp at this; exact this
  have new : ∀ {i : Nat} {e : Ent} {g : Nat},l1[i]? = some e -> e.blk = some g -> w.heap.size <= g:=fun {i e g} h1 h2=>by
   rcases hs.fresh 0 i e g h1 h2 with ⟨d0,i0,e0,h0,_⟩ | h0
   .exact (no h0).elim
   .exact h0
  have part : ∀ {d i : Nat} {e : Ent},get2 ((l ++ l1) :: φ0) d i = some e -> get2 (l :: φ0) d i = some e \/ d = 0 /\ l.length <= i /\ l1[i - l.length]? = some e:=fun {d i e} h1=>by
   cases d with
   | succ d=>exact .inl h1
   | zero =>
    have h1' : (l ++ l1)[i]? = some e:=h1
    rcases Nat.lt_or_ge i l.length with hi | hi
    .rw [List.getElem?_append_left hi] at h1'; exact .inl h1'
    .rw [List.getElem?_append_right hi] at h1'; exact .inr ⟨rfl,hi,h1'⟩
  have fresh : ∀ d i e g,get2 ((l ++ l1) :: φ0) d i = some e -> e.blk = some g -> (∃ d0 i0 e0,get2 (l :: φ0) d0 i0 = some e0 /\ e0.blk = some g) \/ w.heap.size <= g:=fun d i e g h1 h2=>by
   rcases part h1 with h1 | ⟨_,_,h1⟩
   .exact .inl ⟨d,i,e,h1,h2⟩
   .exact .inr (new h1 h2)
  have hF:=zIm l l1 φ0
  refine ⟨x,Pr,(l ++ l1) :: φ0,rfl,⟨Prot.le_refl _,hF,fresh,⟨hs.fr.os,hs.fr.tape,hs.fr.output,hs.fr.size,fun g hg _=>hblk g hg⟩,rfl,fun g o a b=>absurd a b⟩,⟨fun d i o ho=>?_,fun d i e d' i' e' g a b c f=>?_,fun d i e g a b=>?_,fun b o v hv=>?_,hR.tb.of (Prot.le_refl _) (fun g hg _=>hblk g hg) fresh,?_⟩,?_⟩
  .have keep : ∀ {d i : Nat} {o : AObj},get2 (L :: R) d i = some o -> ∃ e,get2 ((l ++ l1) :: φ0) d i = some e /\ RelO Pr (((l ++ l1) :: φ0).drop d) w' o e:=fun {d i o} ho=>by
    obtain ⟨e,he,hro⟩:=hR.obj d i o ho
    refine ⟨e,?_,hro.keep (Prot.le_refl _) (hF.drop d) fun g hg=>⟨hblk g (hR.lt d i e g he hg),fun _ h=>h⟩⟩
    cases d with
    | succ d=>exact he
    | zero =>
     have he' : l[i]? = some e:=he
     show (l ++ l1)[i]? = some e
     rw [List.getElem?_append_left (List.getElem?_eq_some_iff.1 he').1]; exact he'
   cases d with
   | succ d=>exact keep (d:=d + 1) ho
   | zero =>
    have ho' : (L ++ (List.replicate c AObj.dead ++ [.row E k n cs]))[i]? = some o:=ho
    rcases Nat.lt_or_ge i L.length with hi | hi
    .rw [List.getElem?_append_left hi] at ho'
     exact keep (d:=0) ho'
    .rw [List.getElem?_append_right hi] at ho'
     obtain ⟨e,he,hro⟩:=hr.obj 0 (i - L.length) o ho'
     have he' : l1[i - L.length]? = some e:=he
     refine ⟨e,?_,?_⟩
     .show (l ++ l1)[i]? = some e
      rw [List.getElem?_append_right (by omega),hlL]; exact he'
     .rcases Nat.lt_or_ge (i - L.length) c with hc | hc
      .rw [List.getElem?_append_left (by simpa using hc),List.getElem?_replicate,if_pos hc] at ho'
       cases ho'; trivial
      .rw [List.getElem?_append_right (by simpa using hc),List.length_replicate] at ho'
       have hi0 : i - L.length - c = 0:=by
        have:=(List.getElem?_eq_some_iff.1 ho').1
        simp at this; omega
       rw [hi0] at ho';simp at ho';subst ho'
       obtain ⟨h0,h1,h2,h3,h5,h4⟩:=hro
       refine ⟨h0,h1,h2,h3,h5,h4.imp id ?_⟩
       rintro ⟨g,ys,a,b,c',d,e1,f,q,i'⟩
       refine ⟨g,ys,a,b,c',d,e1,f,fun j v y u z=>?_,fun o=>?_⟩
       .obtain ⟨x0,rfl,hx0⟩:=hcs v (List.mem_of_getElem? u)
        rw [zP (q j _ y u z) rfl];exact .p (.v hx0)
       .cases hv : Pr g o with
        | none=>rfl
        | some v=>have:=zGM hR hv; have:=new he' a; omega
  .rcases part a with a1 | ⟨rfl,ha,a1⟩ <;> rcases part b with b1 | ⟨rfl,hb,b1⟩
   .exact hR.dis _ _ _ _ _ _ g a1 b1 c f
   .have:=hR.lt _ _ _ _ a1 c; have:=new b1 f; omega
   .have:=hR.lt _ _ _ _ b1 f; have:=new a1 c; omega
   .have:=(hr.dis 0 _ _ 0 _ _ g a1 b1 c f).2
    exact ⟨rfl,by omega⟩
  .rcases part a with a1 | ⟨rfl,ha,a1⟩
   .exact Nat.lt_of_lt_of_le (hR.lt _ _ _ _ a1 b) hs.fr.size
   .exact hr.lt 0 _ _ _ a1 b
  .have:=hR.pr b o v hv
   rw [<- this];exact World.cell?_of_block (a:=⟨b,o,none⟩) (hblk b (zAp this))
  .simp [hlL,hl1,hsR]
  .have up : ∀ {e : Ent},get2 [l1] 0 c = some e -> get2 ((l ++ l1) :: φ0) 0 (L.length + c) = some e:=fun {e} h1=>by
    have h1' : l1[c]? = some e:=h1
    show (l ++ l1)[L.length + c]? = some e
    rw [List.getElem?_append_right (by omega),hlL,Nat.add_sub_cancel_left]; exact h1'
   generalize hkk : k = k' at hx
   cases hx with
   | rnil a b c=>exact .rnil (up a) b c
   | rsl a1 a2 a3 a4 a5 a6 a7=>exact .rsl (up a1) a2 a3 a4 a5 a6 a7⟩
end Go.Proofs.YtlclonljdagpkaaGreatDoor
namespace Go.Proofs.YtlclonljdagpkaaGreatDoor
open Go.RowKit
attribute [local simp] List.replicate List.range List.range.loop resA zR retA zAi zAZ zY zAj zAb zQ rowA zf zT List.forall_mem_cons List.contains_cons List.contains_nil List.find? ze zd zS LCp LCl refL
def itRF (x : It) (a : Nat) : List AV:=[U x.kind,Sg x.name,.rsl 0 a x.fields.length 4,U x.result.kind,Sg x.result.name,.p (.sl 3 (x.result.args.map Ty.enc)),.p (.sl 15 (x.body.map St.enc)),U x.ret.op,I x.ret.int,Sg x.ret.name,Sg x.ret.second,Sg x.ret.place.name,.p (strs x.ret.place.path),.p (.sl 8 (x.ret.args.map Ex.enc)),I x.ret.pos,I x.pos]
theorem zTv (x : It) (a n : Nat) : AV.mrgs n (itRF x a) = itRF x (n + a):=by simp [itRF,AV.mrgs,AV.mrg]
theorem zWv (F : Nat) (g : Int -> Int) (hg : AtF F g) (x : It) (hx : ItSm x) (L : List AObj) (R : ASt) (d : Nat) (h : CpAt F (L :: R) d) : ADet Tryz.prog 124 [itV x,.ptr d 8 0,.ptr d 3 0,.ptr d 5 0,.ptr d 4 0,.ptr d 1 0] (L :: R) (.agg (itRF (x.atm g) (L.length + 2))) ((L ++ [.dead,.dead,.row 55 4 x.fields.length (rowC Fi.enc x.fields)]) :: R):=by
 obtain ⟨_,hfs,hty,hst,hex⟩:=hx
 have o1:=h.o1
 have o3:=h.o3
 have o4:=h.o4
 have o5:=h.o5
 have o8:=h.o8
 have fC : ∀ M,ADet Tryz.prog 125 [.p (.sl 4 (x.fields.map Fi.enc)),.fn (.func 122) [] [.ptr (d + 1) 3 0]] (M :: L :: R) (.rsl 0 M.length x.fields.length 4) ((M ++ [.row 55 4 x.fields.length (rowC Fi.enc x.fields)]) :: L :: R):=fun M=>by
  have:=zKk (fun x=>x) x.fields hfs.1 122 [.ptr (d + 1) 3 0] M (L :: R) fun f hf M'=>by
   have:=zTc F f (hfs.2 f hf) _ _ ((h.push M).push M')
   simpa [AV.ups,AV.up] using this
  simpa using this
 have tC:=fun M=>zLe F x.result hty _ _ (h.push M)
 have bC:=fun M=>zEJ hst.1 (fun y hy=>zWf F g hg y (hst.2 y hy)) (h.push M)
 have eC:=fun M=>zQw F g hg x.ret hex _ _ (h.push M)
 have gC:=fun S=>hg x.pos S
 have m1:=zF5 Fi.enc x.fields L.length
 generalize rowC Fi.enc x.fields = r1 at *
 have e0 : itRF (x.atm g) (L.length + 2) = itRF ⟨x.kind,x.name,x.fields,x.result,x.body.map (St.atm g),x.ret.atm g,g x.pos⟩ (L.length + 2):=by simp [itRF,It.atm]
 rw [e0]
 generalize g x.pos = gp at *
 generalize x.ret.atm g = z at *
 generalize x.body.map (St.atm g) = bd at *
 refine ADet.afterS (S':=(L ++ [.cells (itRF ⟨x.kind,x.name,x.fields,x.result,bd,z,gp⟩ (L.length + 2)) 42,.cells (itRF ⟨x.kind,x.name,x.fields,x.result,bd,z,gp⟩ (L.length + 2)) 42,.row 55 4 x.fields.length r1]) :: R) (zP1 ?_) ?_
 .exact ⟨⟨⟨rfl,rfl,rfl⟩,zL _⟩,trivial⟩
 refine ADet.merge mixed Tryz.call124 Tryz.func124 rfl ?_;simp [Tryz.ntmps124];refine zA [(4,3),(6,3),(9,3),(9,7),(10,3),(10,7),(12,3),(12,7),(12,11),(14,3),(14,7),(14,11),(16,3),(16,7),(16,11),(16,15),(18,3),(18,7),(18,11),(18,15)] (by kernel_rfl) (by kernel_rfl) ?_
 simp [o8];refine ⟨_,_,fC _,?_⟩;simp [o3];refine ⟨_,_,tC _,?_⟩;simp [o5];refine ⟨_,_,bC _,?_⟩;simp [o4];refine ⟨_,_,eC _,?_⟩;simp [o1];refine ⟨_,_,gC _,?_⟩;simp [AV.mrg,AV.mrgs,AObj.mrg,m1,itRF]
end Go.Proofs.YtlclonljdagpkaaGreatDoor
namespace Go.Proofs.YtlclonljdagpkaaGreatDoor
open Go.RowKit
attribute [local simp] List.replicate List.range List.range.loop resA zR retA AV.cuts AV.cut AObj.cut trim wkR wkT wkL wkN wkNR wkNL wkM wkMR wkML
def zA9 : Nat -> List It -> List AV
 | _,[]=>[]
 | n,y :: ys=>itRF y (n + 4) ++ zA9 (n + 5) ys
def itP5 (y : It) : List AObj:=[.dead,.dead,.dead,.row 55 4 y.fields.length (rowC Fi.enc y.fields),.dead]
def itsP : List It -> List AObj
 | []=>[]
 | y :: ys=>itP5 y ++ itsP ys
theorem zKl : ∀ (n : Nat) (ys : List It) (y : It),zA9 n (ys ++ [y]) = zA9 n ys ++ itRF y (n + 5 * ys.length + 4)
 | n,[],y=>by simp [zA9]
 | n,z :: ys,y=>by
  have e1 : n + 5 + 5 * ys.length + 4 = n + 5 * (z :: ys).length + 4:=by simp; omega
  rw [List.cons_append,zA9,zKl,e1,zA9,List.append_assoc]
theorem zM6 : ∀ (ys : List It) (y : It),itsP (ys ++ [y]) = itsP ys ++ itP5 y
 | [],y=>by simp [itsP]
 | z :: ys,y=>by rw [List.cons_append,itsP,zM6,itsP,List.append_assoc]
theorem zGK : ∀ ys : List It,(itsP ys).length = 5 * ys.length
 | []=>rfl
 | y :: ys=>by rw [itsP,List.length_append,zGK]; simp [itP5]; omega
theorem zFI : ∀ (n m : Nat) (ys : List It),AV.mrgs m (zA9 n ys) = zA9 (m + n) ys
 | n,m,[]=>rfl
 | n,m,y :: ys=>by
  rw [zA9,zLq,zTv,zFI,zA9];rfl
theorem zJM {y : It} {a N : Nat} (ha : a < N) : AV.cuts N (itRF y a) = itRF y a:=by simp [itRF,AV.cuts,AV.cut,ha]
theorem zHW : ∀ (n N : Nat) (ys : List It),n + 5 * ys.length <= N -> AV.cuts N (zA9 n ys) = zA9 n ys
 | n,N,[],_=>rfl
 | n,N,y :: ys,h=>by
  have h' : n + 5 + 5 * ys.length <= N:=by simp at h; omega
  rw [zA9,zHV,zJM (by omega),zHW _ _ _ h']
theorem zTw (m : Nat) (y : It) : (itP5 y).map (AObj.mrg m) = itP5 y:=by
 simp [itP5,AObj.mrg,zF5]
theorem zGL (m : Nat) : ∀ ys : List It,(itsP ys).map (AObj.mrg m) = itsP ys
 | []=>rfl
 | y :: ys=>by rw [itsP,List.map_append,zTw,zGL]
theorem zWw (N : Nat) (y : It) : ∀ o ∈ itP5 y,wkL [o.cut N] [o]:=fun o ho=>by
 simp only [itP5,List.mem_cons,List.not_mem_nil,or_false] at ho
 rcases ho with rfl | rfl | rfl | rfl | rfl
 .trivial
 .trivial
 .trivial
 .show wkL [AObj.row _ 4 _ (AV.cuts N _)] _
  rw [zD6]; exact ⟨⟨⟨rfl,rfl,rfl⟩,zL _⟩,trivial⟩
 .trivial
theorem zJN (N : Nat) : ∀ (ys : List It),∀ o ∈ itsP ys,wkL [o.cut N] [o]
 | [],o,ho=>by cases ho
 | y :: ys,o,ho=>by
  rw [itsP] at ho
  rcases List.mem_append.1 ho with h | h
  .exact zWw N y o h
  .exact zJN N ys o h
theorem zWx {N q : Nat} {E : TypeId} {ys : List It} {y : It} {ex B : List AObj} {rc : List AV} (hN : N = 1 + 5 * (q + 1)) (hq : ys.length = q) (hex : ex = itsP ys) (hrc : rc = zA9 0 ys) (hB : B.length = 5) (hBB : wkL (B.map (AObj.cut N)) (itP5 y)) :
  wkL (List.map (AObj.cut N) (List.take N (.row E 16 (q + 1) (rc ++ itRF y (5 * q + 4)) :: (ex ++ B)))) (.row E 16 (q + 1) (zA9 0 (ys ++ [y])) :: itsP (ys ++ [y])):=by
 subst hex hrc
 have hl:=zGK ys
 rw [List.take_of_length_le (by simp [hl,hB,hq]; omega),zM6,zKl,List.map_cons,List.map_append]
 have e : zA9 0 ys ++ itRF y (0 + 5 * ys.length + 4) = zA9 0 ys ++ itRF y (5 * q + 4):=by rw [hq]; simp
 rw [e]
 have h2 : AObj.cut N (.row E 16 (q + 1) (zA9 0 ys ++ itRF y (5 * q + 4))) = .row E 16 (q + 1) (zA9 0 ys ++ itRF y (5 * q + 4)):=by
  show AObj.row E 16 (q + 1) (AV.cuts N _) = _
  rw [zHV,zHW _ _ _ (by omega),zJM (by omega)]
 rw [h2];refine ⟨⟨⟨rfl,rfl,rfl⟩,zL _⟩,?_⟩
 have key : ∀ ex : List AObj,(∀ o ∈ ex,wkL [o.cut N] [o]) -> wkL (ex.map (AObj.cut N) ++ B.map (AObj.cut N)) (ex ++ itP5 y):=by
  intro ex
  induction ex with
  | nil=>intro _; exact hBB
  | cons o ex ih=>intro hc; exact zD7 (hc o (by simp)) (ih fun o ho=>hc o (List.mem_cons_of_mem _ ho))
 exact key _ (zJN N ys)
theorem zLr (f : It -> It) (l : List It) (hl : l.length <= 20000) (K : Nat) (caps : List AV) (L : List AObj) (R : ASt) (hc : ∀ x ∈ l,∀ M,ADet Tryz.prog K (itV x :: AV.ups 1 caps) (M :: L :: R) (.agg (itRF (f x) (M.length + 2))) ((M ++ [.dead,.dead,.row 55 4 (f x).fields.length (rowC Fi.enc (f x).fields)]) :: L :: R)) :
  ADet Tryz.prog 123 [.p (.sl 16 (l.map It.enc)),.fn (.func K) [] caps] (L :: R) (.rsl 0 L.length l.length 16) ((L ++ (.row 42 16 l.length (zA9 L.length (l.map f)) :: itsP (l.map f))) :: R):=by
 refine ADet.okP Tryz.call123 0 rfl fun hok=>?_
 have hlen:=okl hok
 refine ADet.merge mixed Tryz.call123 Tryz.func123 rfl ?_;simp [Tryz.ntmps123];refine zCf 42 16 (by decide) [] (fun q : Nat=>q <= l.length) (fun q=>[.p (.sl 16 (l.map It.enc)),.fn (.func K) [] (AV.ups 1 caps),.any,.any,.any,.rsl 0 0 q 16,.any,.any,.p (.sl 16 (l.map It.enc)),I l.length,I q,.any,.any,.any,.any,.any,.any,.any,.any,.any,.any,.any]) (fun q=>(.row 42 16 q (zA9 0 ((l.map f).take q)) :: itsP ((l.map f).take q)) :: L :: R) (fun q=>l.length - q) (fun q=>1 + 5 * q) 0 (Nat.zero_le _) ?_ ?_ ?_ ?_ ?_
 .intro q _; simp [itsP]
 .simp
 .simp
 .simp [itsP,zA9]
 intro q hq
 by_cases hlt : q < l.length
 .have hlt' : (q : Int) < (l.length : Int):=by omega
  have hx:=fun M=>hc _ (List.getElem_mem hlt) M
  have hfx : (l.map f)[q]'(by simpa using hlt) = f l[q]:=by simp
  have htk : (l.map f).take (q + 1) = (l.map f).take q ++ [f l[q]]:=by rw [List.take_add_one,List.getElem?_eq_getElem (by simpa using hlt),hfx]; rfl
  have hle : q + 1 <= 4294967296:=by omega
  have hysl : ((l.map f).take q).length = q:=by simp; omega
  have hexl : (itsP ((l.map f).take q)).length = 5 * q:=by rw [zGK,hysl]
  have hwk:=fun (y : It) (B : List AObj) (hB : B.length = 5) hBB=>zWx (E:=42) (y:=y) (B:=B) rfl hysl rfl rfl hB hBB
  generalize hrc : zA9 0 ((l.map f).take q) = rc at *
  generalize hex : itsP ((l.map f).take q) = ex at *
  generalize hy : l[q] = x at *
  generalize f x = z at *
  generalize hM : 5 * q = M at *
  have hM1 : ∀ c,(M + c < M) = False:=fun c=>by simp
  simp [hlt,hlt',hy,It.enc,hexl,List.getElem?_append,hM1,-trim,-wkT];refine ⟨_,_,hx _,?_⟩;simp [hle,itRF,hexl,List.getElem?_append,hM1,-trim,-wkT];refine ⟨q + 1,hlt,by omega,⟨by simp,zD hlt⟩,?_⟩
  rw [htk];refine ⟨hwk z _ rfl ?_,rfl⟩;simp [itP5,AObj.cut,wkL,zD6,zL]
 .have hlt' : ¬ (q : Int) < (l.length : Int):=by omega
  have hql : q = l.length:=by omega
  subst hql
  have ht : (l.map f).take l.length = l.map f:=List.take_of_length_le (by simp)
  have hm:=zFI 0 L.length (l.map f)
  have hm2:=zGL L.length (l.map f)
  simp [ht,AV.mrg,AObj.mrg,hm,hm2]
def prP (n : Nat) (ys : List It) : List AObj:=.row 42 16 ys.length (zA9 n ys) :: itsP ys
theorem zWy (m n : Nat) (ys : List It) : (prP n ys).map (AObj.mrg m) = prP (m + n) ys:=by
 unfold prP;rw [List.map_cons,zGL]
 show AObj.row _ 16 _ (AV.mrgs m _) :: _ = _
 rw [zFI]
theorem zLs (n : Nat) (ys : List It) : (prP n ys).length = 1 + 5 * ys.length:=by unfold prP; rw [List.length_cons,zGK]; omega
theorem zWz (F : Nat) (g : Int -> Int) (hg : AtF F g) (p : List It) (hp : PrSm p) (L : List AObj) (R : ASt) : ADet Tryz.prog 48 [.agg [.p (prog p)],.fn (.func F) [] []] (L :: R) (.agg [.rsl 0 (L.length + 9) p.length 16]) ((L ++ (List.replicate 9 .dead ++ prP (L.length + 9) (p.map (It.atm g)))) :: R):=by
 have iC : ∀ M,CpAt F (M :: L :: R) 0 -> ADet Tryz.prog 123 [.p (.sl 16 (p.map It.enc)),.fn (.func 124) [] [.ptr 0 8 0,.ptr 0 3 0,.ptr 0 5 0,.ptr 0 4 0,.ptr 0 1 0]] (M :: L :: R) (.rsl 0 M.length p.length 16) ((M ++ (.row 42 16 p.length (zA9 M.length (p.map (It.atm g))) :: itsP (p.map (It.atm g)))) :: L :: R):=fun M h =>
  zLr (It.atm g) p hp.1 124 _ M (L :: R) fun x hx M'=>by
   have:=zWv F g hg x (hp.2 x hx) M' (M :: L :: R) _ (h.push M')
   simpa [AV.ups,AV.up,It.atm] using this
 have hl : (p.map (It.atm g)).length = p.length:=by simp
 have m1:=zFI 9 L.length (p.map (It.atm g))
 have m2:=zGL L.length (p.map (It.atm g))
 unfold prP;rw [hl]
 generalize p.map (It.atm g) = ys at *
 refine ADet.mergeW mixed Tryz.call48 Tryz.func48 rfl ?_;simp [Tryz.ntmps48,prog];refine ⟨_,_,iC _ ⟨rfl,rfl,rfl,rfl,rfl,rfl,rfl⟩,?_⟩;simp [AV.mrg,AV.mrgs,-wkL];rw [m2];refine (show wkL (AObj.row 42 16 p.length (AV.mrgs L.length (zA9 9 ys)) :: itsP ys) (.row 42 16 p.length (zA9 (L.length + 9) ys) :: itsP ys) from ?_)
 rw [m1];exact ⟨⟨⟨rfl,rfl,rfl⟩,zL _⟩,zCk (zJN 0 ys)⟩
theorem zUa (N n : Nat) (ys : List It) (h : n + 5 * ys.length <= N) : ∀ o ∈ prP n ys,wkL [o.cut N] [o]:=fun o ho=>by
 unfold prP at ho
 rcases List.mem_cons.1 ho with rfl | ho
 .show wkL [AObj.row _ 16 _ (AV.cuts N _)] _
  rw [zHW _ _ _ h];exact ⟨⟨⟨rfl,rfl,rfl⟩,zL _⟩,trivial⟩
 .exact zJN N ys o ho
theorem zY7 (p : List It) (hp : PrSm p) (L : List AObj) (R : ASt) : ADet Tryz.prog 16 [.agg [.p (prog p)]] (L :: R) (.agg [.rsl 0 (L.length + 11) p.length 16]) ((L ++ (List.replicate 11 .dead ++ prP (L.length + 11) p)) :: R):=by
 have hg : AtF 49 (fun n=>n):=fun n S=>by
  refine ADet.intro mixed Tryz.call49 Tryz.func49 rfl ?_;simp [Tryz.ntmps49]
 have hid : p.map (It.atm fun n=>n) = p:=by
  conv=>rhs; rw [<- List.map_id p]
  exact List.map_congr_left fun x _=>zWh x
 have cC:=fun M=>zWz 49 _ hg p hp M (L :: R)
 rw [hid] at cC
 have m1:=zWy L.length 11 p
 have hwk:=zCk (zUa _ (L.length + 11) p (Nat.le_refl _))
 refine ADet.mergeW mixed Tryz.call16 Tryz.func16 rfl ?_;simp [Tryz.ntmps16];refine ⟨_,_,cC _,?_⟩;simp [AV.mrg,AV.mrgs,-wkL,m1];exact hwk
theorem zM7 : ∀ (ys : List It) (q : Nat) (h : q < ys.length),(itsP ys)[5 * q + 3]? = some (.row 55 4 ys[q].fields.length (rowC Fi.enc ys[q].fields))
 | y :: ys,0,h=>rfl
 | y :: ys,q + 1,h=>by
  have h1:=zM7 ys q (by simpa using h)
  have hl : (itP5 y).length = 5:=rfl
  rw [itsP,List.getElem?_append_right (by rw [hl]; omega),hl,show 5 * (q + 1) + 3 - 5 = 5 * q + 3 by omega,h1]; rfl
theorem zW0 (m : Nat) (ys : List It) {q : Nat} (h : q < ys.length) : (prP m ys)[5 * q + 4]? = some (.row 55 4 ys[q].fields.length (rowC Fi.enc ys[q].fields)):=zM7 ys q h
theorem zHX : ∀ (m : Nat) (ys : List It),(zA9 m ys).length = 16 * ys.length
 | m,[]=>rfl
 | m,y :: ys=>by rw [zA9,List.length_append,zHX]; simp [itRF]; omega
theorem zCx : ∀ (m : Nat) (ys : List It) (q : Nat) (h : q < ys.length),((zA9 m ys).drop (q * 16)).take 16 = itRF ys[q] (m + 5 * q + 4)
 | m,y :: ys,0,h=>by
  rw [zA9,Nat.zero_mul,List.drop_zero,List.take_append_of_le_length (by simp [itRF]),List.take_of_length_le (by simp [itRF])]
  rfl
 | m,y :: ys,q + 1,h=>by
  have hl : (itRF y (m + 4)).length = 16:=rfl
  rw [zA9,List.drop_append,List.drop_of_length_le (by rw [hl]; omega),List.nil_append,hl,show (q + 1) * 16 - 16 = q * 16 by omega,zCx (m + 5) ys q (by simpa using h)]
  have e1 : m + 5 + 5 * q + 4 = m + 5 * (q + 1) + 4:=by omega
  rw [e1];rfl
end Go.Proofs.YtlclonljdagpkaaGreatDoor
