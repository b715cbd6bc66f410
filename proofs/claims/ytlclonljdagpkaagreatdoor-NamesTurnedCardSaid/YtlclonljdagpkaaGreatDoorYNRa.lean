/- A part of the proof. The statement is proved in the claim's last text. -/
import Derived.Test.YtlclonljdagpkaaGreatDoorYNQk
import Derived.Test.YtlclonljdagpkaaGreatDoorYMLd
import Derived.Test.YtlclonljdagpkaaGreatDoorYMLe
set_option linter.unusedVariables false
set_option linter.unusedSimpArgs false
set_option maxRecDepth 100000
set_option maxHeartbeats 32000000
namespace Go.Proofs.YtlclonljdagpkaaGreatDoor
open Go.RowKit
attribute [local simp] List.replicate List.range List.range.loop resA resOne retA AV.cuts AV.cut AObj.cut trim wkR wkT wkL wkN wkNR wkNL wkM wkMR wkML
theorem mrgs_append (n : Nat) (a b : List AV) : AV.mrgs n (a ++ b) = AV.mrgs n a ++ AV.mrgs n b:=by rw [mrgs_map,mrgs_map,mrgs_map,List.map_append]
theorem cuts_append (n : Nat) (a b : List AV) : AV.cuts n (a ++ b) = AV.cuts n a ++ AV.cuts n b:=by rw [cuts_map,cuts_map,cuts_map,List.map_append]
theorem everyR_Field (f : Fi → Fi) (l : List Fi) (hl : l.length ≤ 20000) (K : Nat) (caps : List AV) (L : List AObj) (R : ASt) (hc : ∀ x ∈ l,∀ M,ADet Tryz.prog K (fiV x :: AV.ups 1 caps) (M :: L :: R) (fiV (f x)) (M :: L :: R)) :
  ADet Tryz.prog 125 [.p (.sl 4 (l.map Fi.enc)),.fn (.func K) [] caps] (L :: R) (.rsl 0 L.length l.length 4) ((L ++ [.row 55 4 l.length (rowC Fi.enc (l.map f))]) :: R):=by
 refine ADet.okP Tryz.call125 0 rfl fun hok=>?_
 have hlen:=okl hok
 refine ADet.merge mixed Tryz.call125 Tryz.func125 rfl ?_
 simp [Tryz.ntmps125]
 refine awp_loopR 55 4 (by decide) [] (fun q : Nat=>q ≤ l.length) (fun q=>[.p (.sl 4 (l.map Fi.enc)),.fn (.func K) [] (AV.ups 1 caps),.any,.any,.any,.rsl 0 0 q 4,.any,.any,.p (.sl 4 (l.map Fi.enc)),I l.length,I q,.any,.any,.any,.any,.any,.any,.any,.any,.any,.any,.any]) (fun q=>[.row 55 4 q (rowC Fi.enc ((l.map f).take q))] :: L :: R) (fun q=>l.length - q) (fun _=>1) 0 (Nat.zero_le _) ?_ ?_ ?_ ?_ ?_
 ·intro q _; simp
 ·simp
 ·simp
 ·rfl
 intro q hq
 by_cases hlt : q < l.length
 ·have hlt' : (q : Int) < (l.length : Int):=by omega
  have hx:=fun M=>hc _ (List.getElem_mem hlt) M
  have hr:=rowC_take Fi.enc (l.map f) (q:=q) (by simpa using hlt)
  have hfx : (l.map f)[q]'(by simpa using hlt) = f l[q]:=by simp
  rw [hfx] at hr
  have hcut:=rowC_cut Fi.enc ((l.map f).take q) 1
  have hle : q + 1 ≤ 4294967296:=by omega
  generalize rowC Fi.enc ((l.map f).take q) = rc at *
  generalize hy : l[q] = x at *
  generalize f x = z at *
  simp [hlt,hlt',hy,Fi.enc]
  refine ⟨_,_,hx _,?_⟩
  simp [hle,Fi.enc]
  refine ⟨q + 1,hlt,by omega,⟨rfl,wrap_succ hlt⟩,rfl,?_⟩
  rw [hr,cuts_map,List.map_append,← cuts_map,hcut]
  exact wkR_refl _
 ·have hlt' : ¬ (q : Int) < (l.length : Int):=by omega
  have hql : q = l.length:=by omega
  subst hql
  have ht : (l.map f).take l.length = l.map f:=List.take_of_length_le (by simp)
  have hm:=rowC_mrg Fi.enc (l.map f) L.length
  simp [ht,AV.mrg,AObj.mrg,hm]
theorem everyR_Stmt (f : St → St) (l : List St) (hl : l.length ≤ 20000) (K : Nat) (caps : List AV) (L : List AObj) (R : ASt) (hc : ∀ x ∈ l,∀ M,ADet Tryz.prog K (stmV x :: AV.ups 1 caps) (M :: L :: R) (stmV (f x)) (M :: L :: R)) :
  ADet Tryz.prog 119 [.p (.sl 15 (l.map St.enc)),.fn (.func K) [] caps] (L :: R) (.rsl 0 L.length l.length 15) ((L ++ [.row 45 15 l.length (rowC St.enc (l.map f))]) :: R):=by
 refine ADet.okP Tryz.call119 0 rfl fun hok=>?_
 have hlen:=okl hok
 refine ADet.merge mixed Tryz.call119 Tryz.func119 rfl ?_
 simp [Tryz.ntmps119]
 refine awp_loopR 45 15 (by decide) [] (fun q : Nat=>q ≤ l.length) (fun q=>[.p (.sl 15 (l.map St.enc)),.fn (.func K) [] (AV.ups 1 caps),.any,.any,.any,.rsl 0 0 q 15,.any,.any,.p (.sl 15 (l.map St.enc)),I l.length,I q,.any,.any,.any,.any,.any,.any,.any,.any,.any,.any,.any]) (fun q=>[.row 45 15 q (rowC St.enc ((l.map f).take q))] :: L :: R) (fun q=>l.length - q) (fun _=>1) 0 (Nat.zero_le _) ?_ ?_ ?_ ?_ ?_
 ·intro q _; simp
 ·simp
 ·simp
 ·rfl
 intro q hq
 by_cases hlt : q < l.length
 ·have hlt' : (q : Int) < (l.length : Int):=by omega
  have hx:=fun M=>hc _ (List.getElem_mem hlt) M
  have hr:=rowC_take St.enc (l.map f) (q:=q) (by simpa using hlt)
  have hfx : (l.map f)[q]'(by simpa using hlt) = f l[q]:=by simp
  rw [hfx] at hr
  have hcut:=rowC_cut St.enc ((l.map f).take q) 1
  have hle : q + 1 ≤ 4294967296:=by omega
  generalize rowC St.enc ((l.map f).take q) = rc at *
  generalize hy : l[q] = x at *
  generalize f x = z at *
  simp [hlt,hlt',hy,stEnc]
  refine ⟨_,_,hx _,?_⟩
  simp [hle,stEnc]
  refine ⟨q + 1,hlt,by omega,⟨rfl,wrap_succ hlt⟩,rfl,?_⟩
  rw [hr,cuts_map,List.map_append,← cuts_map,hcut,stEnc]
  exact wkR_refl _
 ·have hlt' : ¬ (q : Int) < (l.length : Int):=by omega
  have hql : q = l.length:=by omega
  subst hql
  have ht : (l.map f).take l.length = l.map f:=List.take_of_length_le (by simp)
  have hm:=rowC_mrg St.enc (l.map f) L.length
  simp [ht,AV.mrg,AObj.mrg,hm]
end Go.Proofs.YtlclonljdagpkaaGreatDoor
namespace Go.Proofs.YtlclonljdagpkaaGreatDoor
open Go.RowKit
attribute [local simp] List.replicate List.range List.range.loop resA resOne retA virtL virtO virt_get markL markO markR_get rowA awpI_nil awpI_cons List.forall_mem_cons List.contains_cons List.contains_nil List.find? nextD_eq awpD_nil awpD_cons LCp LCl refL
def itRC (x : It) (a b : Nat) : List AV:=[U x.kind,Sg x.name,.rsl 0 a x.fields.length 4,U x.result.kind,Sg x.result.name,.p (.sl 3 (x.result.args.map Ty.enc)),.rsl 0 b x.body.length 15,U x.ret.op,I x.ret.int,Sg x.ret.name,Sg x.ret.second,Sg x.ret.place.name,.p (strs x.ret.place.path),.p (.sl 8 (x.ret.args.map Ex.enc)),I x.ret.pos,I x.pos]
theorem itRC_mrg (x : It) (a b n : Nat) : AV.mrgs n (itRC x a b) = itRC x (n + a) (n + b):=by simp [itRC,AV.mrgs,AV.mrg]
theorem cpItemR (F : Nat) (g : Int → Int) (hg : AtF F g) (x : It) (hx : ItSm x) (L : List AObj) (R : ASt) (d : Nat) (h : CpAt F (L :: R) d) : ADet Tryz.prog 124 [itV x,.ptr d 8 0,.ptr d 3 0,.ptr d 5 0,.ptr d 4 0,.ptr d 1 0] (L :: R) (.agg (itRC (x.atm g) (L.length + 2) (L.length + 3))) ((L ++ [.dead,.dead,.row 55 4 x.fields.length (rowC Fi.enc x.fields),.row 45 15 x.body.length (rowC St.enc (x.body.map (St.atm g)))]) :: R):=by
 obtain ⟨_,hfs,hty,hst,hex⟩:=hx
 have o1:=h.o1
 have o3:=h.o3
 have o4:=h.o4
 have o5:=h.o5
 have o8:=h.o8
 have fC : ∀ M,ADet Tryz.prog 125 [.p (.sl 4 (x.fields.map Fi.enc)),.fn (.func 122) [] [.ptr (d + 1) 3 0]] (M :: L :: R) (.rsl 0 M.length x.fields.length 4) ((M ++ [.row 55 4 x.fields.length (rowC Fi.enc x.fields)]) :: L :: R):=fun M=>by
  have:=everyR_Field (fun x=>x) x.fields hfs.1 122 [.ptr (d + 1) 3 0] M (L :: R) fun f hf M'=>by
   have:=cpFieldC F f (hfs.2 f hf) _ _ ((h.push M).push M')
   simpa [AV.ups,AV.up] using this
  simpa using this
 have tC:=fun M=>cpTypeC F x.result hty _ _ (h.push M)
 have bC : ∀ M,ADet Tryz.prog 119 [.p (.sl 15 (x.body.map St.enc)),.fn (.func 120) [] [.ptr (d + 1) 3 0,.ptr (d + 1) 6 0,.ptr (d + 1) 4 0,.ptr (d + 1) 5 0,.ptr (d + 1) 7 0,.ptr (d + 1) 1 0]] (M :: L :: R) (.rsl 0 M.length x.body.length 15) ((M ++ [.row 45 15 x.body.length (rowC St.enc (x.body.map (St.atm g)))]) :: L :: R):=fun M =>
  everyR_Stmt (St.atm g) x.body hst.1 120 _ M (L :: R) fun s hs M'=>by
   have:=cpStmtC F g hg s (hst.2 s hs) _ _ ((h.push M).push M')
   simpa [AV.ups,AV.up] using this
 have eC:=fun M=>cpExprC F g hg x.ret hex _ _ (h.push M)
 have gC:=fun S=>hg x.pos S
 have hbl : (x.body.map (St.atm g)).length = x.body.length:=by simp
 have m1:=rowC_mrg Fi.enc x.fields L.length
 have m2:=rowC_mrg St.enc (x.body.map (St.atm g)) L.length
 generalize rowC Fi.enc x.fields = r1 at *
 generalize rowC St.enc (x.body.map (St.atm g)) = r2 at *
 have e0 : itRC (x.atm g) (L.length + 2) (L.length + 3) = itRC ⟨x.kind,x.name,x.fields,x.result,x.body,x.ret.atm g,g x.pos⟩ (L.length + 2) (L.length + 3):=by simp [itRC,It.atm]
 rw [e0]
 generalize g x.pos = gp at *
 generalize x.ret.atm g = z at *
 refine ADet.afterS (S':=(L ++ [.cells (itRC ⟨x.kind,x.name,x.fields,x.result,x.body,z,gp⟩ (L.length + 2) (L.length + 3)) 42,.cells (itRC ⟨x.kind,x.name,x.fields,x.result,x.body,z,gp⟩ (L.length + 2) (L.length + 3)) 42,.row 55 4 x.fields.length r1,.row 45 15 x.body.length r2]) :: R) (wkS_app ?_) ?_
 ·exact ⟨⟨⟨rfl,rfl,rfl⟩,wkR_refl _⟩,⟨⟨rfl,rfl,rfl⟩,wkR_refl _⟩,trivial⟩
 refine ADet.merge mixed Tryz.call124 Tryz.func124 rfl ?_
 simp [Tryz.ntmps124]
 refine awp_draw [(4,3),(6,3),(9,3),(9,7),(10,3),(10,7),(12,3),(12,7),(12,11),(14,3),(14,7),(14,11),(16,3),(16,7),(16,11),(16,15),(18,3),(18,7),(18,11),(18,15)] (by kernel_rfl) (by kernel_rfl) ?_
 simp [o8]
 refine ⟨_,_,fC _,?_⟩
 simp [o3]
 refine ⟨_,_,tC _,?_⟩
 simp [o5]
 refine ⟨_,_,bC _,?_⟩
 simp [o4]
 refine ⟨_,_,eC _,?_⟩
 simp [o1]
 refine ⟨_,_,gC _,?_⟩
 simp [AV.mrg,AV.mrgs,AObj.mrg,m1,m2,itRC]
end Go.Proofs.YtlclonljdagpkaaGreatDoor
namespace Go.Proofs.YtlclonljdagpkaaGreatDoor
open Go.RowKit
attribute [local simp] List.replicate List.range List.range.loop resA resOne retA AV.cuts AV.cut AObj.cut trim wkR wkT wkL wkN wkNR wkNL wkM wkMR wkML
def itsRC : Nat → List It → List AV
 | _,[]=>[]
 | n,y :: ys=>itRC y (n + 4) (n + 5) ++ itsRC (n + 6) ys
def itO6 (y : It) : List AObj:=[.dead,.dead,.dead,.row 55 4 y.fields.length (rowC Fi.enc y.fields),.row 45 15 y.body.length (rowC St.enc y.body),.dead]
def itsO : List It → List AObj
 | []=>[]
 | y :: ys=>itO6 y ++ itsO ys
theorem itsRC_app : ∀ (n : Nat) (ys : List It) (y : It),itsRC n (ys ++ [y]) = itsRC n ys ++ itRC y (n + 6 * ys.length + 4) (n + 6 * ys.length + 5)
 | n,[],y=>by simp [itsRC]
 | n,z :: ys,y=>by
  have e1 : n + 6 + 6 * ys.length + 4 = n + 6 * (z :: ys).length + 4:=by simp; omega
  have e2 : n + 6 + 6 * ys.length + 5 = n + 6 * (z :: ys).length + 5:=by simp; omega
  rw [List.cons_append,itsRC,itsRC_app,e1,e2,itsRC,List.append_assoc]
theorem itsO_app : ∀ (ys : List It) (y : It),itsO (ys ++ [y]) = itsO ys ++ itO6 y
 | [],y=>by simp [itsO]
 | z :: ys,y=>by rw [List.cons_append,itsO,itsO_app,itsO,List.append_assoc]
theorem itsO_len : ∀ ys : List It,(itsO ys).length = 6 * ys.length
 | []=>rfl
 | y :: ys=>by rw [itsO,List.length_append,itsO_len]; simp [itO6]; omega
theorem itsRC_mrg : ∀ (n m : Nat) (ys : List It),AV.mrgs m (itsRC n ys) = itsRC (m + n) ys
 | n,m,[]=>rfl
 | n,m,y :: ys=>by
  rw [itsRC,mrgs_append,itRC_mrg,itsRC_mrg,itsRC]
  rfl
theorem itRC_cut {y : It} {a b N : Nat} (ha : a < N) (hb : b < N) : AV.cuts N (itRC y a b) = itRC y a b:=by simp [itRC,AV.cuts,AV.cut,ha,hb]
theorem itsRC_cut : ∀ (n N : Nat) (ys : List It),n + 6 * ys.length ≤ N → AV.cuts N (itsRC n ys) = itsRC n ys
 | n,N,[],_=>rfl
 | n,N,y :: ys,h=>by
  have h' : n + 6 + 6 * ys.length ≤ N:=by simp at h; omega
  rw [itsRC,cuts_append,itRC_cut (by omega) (by omega),itsRC_cut _ _ _ h']
theorem itO6_mrg (m : Nat) (y : It) : (itO6 y).map (AObj.mrg m) = itO6 y:=by
 simp [itO6,AObj.mrg,rowC_mrg]
theorem itsO_mrg (m : Nat) : ∀ ys : List It,(itsO ys).map (AObj.mrg m) = itsO ys
 | []=>rfl
 | y :: ys=>by rw [itsO,List.map_append,itO6_mrg,itsO_mrg]
theorem itO6_wk (N : Nat) (y : It) : ∀ o ∈ itO6 y,wkL [o.cut N] [o]:=fun o ho=>by
 simp only [itO6,List.mem_cons,List.not_mem_nil,or_false] at ho
 rcases ho with rfl | rfl | rfl | rfl | rfl | rfl
 ·trivial
 ·trivial
 ·trivial
 ·show wkL [AObj.row _ 4 _ (AV.cuts N _)] _
  rw [rowC_cut]; exact ⟨⟨⟨rfl,rfl,rfl⟩,wkR_refl _⟩,trivial⟩
 ·show wkL [AObj.row _ 15 _ (AV.cuts N _)] _
  rw [rowC_cut]; exact ⟨⟨⟨rfl,rfl,rfl⟩,wkR_refl _⟩,trivial⟩
 ·trivial
theorem itsO_wk (N : Nat) : ∀ (ys : List It),∀ o ∈ itsO ys,wkL [o.cut N] [o]
 | [],o,ho=>by cases ho
 | y :: ys,o,ho=>by
  rw [itsO] at ho
  rcases List.mem_append.1 ho with h | h
  ·exact itO6_wk N y o h
  ·exact itsO_wk N ys o h
theorem wk_endI {N q : Nat} {E : TypeId} {ys : List It} {y : It} {ex B : List AObj} {rc : List AV} (hN : N = 1 + 6 * (q + 1)) (hq : ys.length = q) (hex : ex = itsO ys) (hrc : rc = itsRC 0 ys) (hB : B.length = 6) (hBB : wkL (B.map (AObj.cut N)) (itO6 y)) :
  wkL (List.map (AObj.cut N) (List.take N (.row E 16 (q + 1) (rc ++ itRC y (6 * q + 4) (6 * q + 5)) :: (ex ++ B)))) (.row E 16 (q + 1) (itsRC 0 (ys ++ [y])) :: itsO (ys ++ [y])):=by
 subst hex hrc
 have hl:=itsO_len ys
 rw [List.take_of_length_le (by simp [hl,hB,hq]; omega),itsO_app,itsRC_app,List.map_cons,List.map_append]
 have e : itsRC 0 ys ++ itRC y (0 + 6 * ys.length + 4) (0 + 6 * ys.length + 5) = itsRC 0 ys ++ itRC y (6 * q + 4) (6 * q + 5):=by rw [hq]; simp
 rw [e]
 have h2 : AObj.cut N (.row E 16 (q + 1) (itsRC 0 ys ++ itRC y (6 * q + 4) (6 * q + 5))) = .row E 16 (q + 1) (itsRC 0 ys ++ itRC y (6 * q + 4) (6 * q + 5)):=by
  show AObj.row E 16 (q + 1) (AV.cuts N _) = _
  rw [cuts_append,itsRC_cut _ _ _ (by omega),itRC_cut (by omega) (by omega)]
 rw [h2]
 refine ⟨⟨⟨rfl,rfl,rfl⟩,wkR_refl _⟩,?_⟩
 have key : ∀ ex : List AObj,(∀ o ∈ ex,wkL [o.cut N] [o]) → wkL (ex.map (AObj.cut N) ++ B.map (AObj.cut N)) (ex ++ itO6 y):=by
  intro ex
  induction ex with
  | nil=>intro _; exact hBB
  | cons o ex ih=>intro hc; exact wkL_cons (hc o (by simp)) (ih fun o ho=>hc o (List.mem_cons_of_mem _ ho))
 exact key _ (itsO_wk N ys)
theorem everyR_Item (f : It → It) (l : List It) (hl : l.length ≤ 20000) (K : Nat) (caps : List AV) (L : List AObj) (R : ASt) (hc : ∀ x ∈ l,∀ M,ADet Tryz.prog K (itV x :: AV.ups 1 caps) (M :: L :: R) (.agg (itRC (f x) (M.length + 2) (M.length + 3))) ((M ++ [.dead,.dead,.row 55 4 (f x).fields.length (rowC Fi.enc (f x).fields),.row 45 15 (f x).body.length (rowC St.enc (f x).body)]) :: L :: R)) :
  ADet Tryz.prog 123 [.p (.sl 16 (l.map It.enc)),.fn (.func K) [] caps] (L :: R) (.rsl 0 L.length l.length 16) ((L ++ (.row 42 16 l.length (itsRC L.length (l.map f)) :: itsO (l.map f))) :: R):=by
 refine ADet.okP Tryz.call123 0 rfl fun hok=>?_
 have hlen:=okl hok
 refine ADet.merge mixed Tryz.call123 Tryz.func123 rfl ?_
 simp [Tryz.ntmps123]
 refine awp_loopR 42 16 (by decide) [] (fun q : Nat=>q ≤ l.length) (fun q=>[.p (.sl 16 (l.map It.enc)),.fn (.func K) [] (AV.ups 1 caps),.any,.any,.any,.rsl 0 0 q 16,.any,.any,.p (.sl 16 (l.map It.enc)),I l.length,I q,.any,.any,.any,.any,.any,.any,.any,.any,.any,.any,.any]) (fun q=>(.row 42 16 q (itsRC 0 ((l.map f).take q)) :: itsO ((l.map f).take q)) :: L :: R) (fun q=>l.length - q) (fun q=>1 + 6 * q) 0 (Nat.zero_le _) ?_ ?_ ?_ ?_ ?_
 ·intro q _; simp [itsO]
 ·simp
 ·simp
 ·simp [itsO,itsRC]
 intro q hq
 by_cases hlt : q < l.length
 ·have hlt' : (q : Int) < (l.length : Int):=by omega
  have hx:=fun M=>hc _ (List.getElem_mem hlt) M
  have hfx : (l.map f)[q]'(by simpa using hlt) = f l[q]:=by simp
  have htk : (l.map f).take (q + 1) = (l.map f).take q ++ [f l[q]]:=by rw [List.take_add_one,List.getElem?_eq_getElem (by simpa using hlt),hfx]; rfl
  have hle : q + 1 ≤ 4294967296:=by omega
  have hysl : ((l.map f).take q).length = q:=by simp; omega
  have hexl : (itsO ((l.map f).take q)).length = 6 * q:=by rw [itsO_len,hysl]
  have hwk:=fun (y : It) (B : List AObj) (hB : B.length = 6) hBB=>wk_endI (E:=42) (y:=y) (B:=B) rfl hysl rfl rfl hB hBB
  generalize hrc : itsRC 0 ((l.map f).take q) = rc at *
  generalize hex : itsO ((l.map f).take q) = ex at *
  generalize hy : l[q] = x at *
  generalize f x = z at *
  generalize hM : 6 * q = M at *
  have hM1 : ∀ c,(M + c < M) = False:=fun c=>by simp
  simp [hlt,hlt',hy,It.enc,hexl,List.getElem?_append,hM1,-trim,-wkT]
  refine ⟨_,_,hx _,?_⟩
  simp [hle,itRC,hexl,List.getElem?_append,hM1,-trim,-wkT]
  refine ⟨q + 1,hlt,by omega,⟨by simp,wrap_succ hlt⟩,?_⟩
  rw [htk]
  refine ⟨hwk z _ rfl ?_,rfl⟩
  simp [itO6,AObj.cut,wkL,rowC_cut,wkR_refl]
 ·have hlt' : ¬ (q : Int) < (l.length : Int):=by omega
  have hql : q = l.length:=by omega
  subst hql
  have ht : (l.map f).take l.length = l.map f:=List.take_of_length_le (by simp)
  have hm:=itsRC_mrg 0 L.length (l.map f)
  have hm2:=itsO_mrg L.length (l.map f)
  simp [ht,AV.mrg,AObj.mrg,hm,hm2]
def prO (n : Nat) (ys : List It) : List AObj:=.row 42 16 ys.length (itsRC n ys) :: itsO ys
theorem prO_mrg (m n : Nat) (ys : List It) : (prO n ys).map (AObj.mrg m) = prO (m + n) ys:=by
 unfold prO
 rw [List.map_cons,itsO_mrg]
 show AObj.row _ 16 _ (AV.mrgs m _) :: _ = _
 rw [itsRC_mrg]
theorem copiedR (F : Nat) (g : Int → Int) (hg : AtF F g) (p : List It) (hp : PrSm p) (L : List AObj) (R : ASt) : ADet Tryz.prog 48 [.agg [.p (prog p)],.fn (.func F) [] []] (L :: R) (.agg [.rsl 0 (L.length + 9) p.length 16]) ((L ++ (List.replicate 9 .dead ++ prO (L.length + 9) (p.map (It.atm g)))) :: R):=by
 have iC : ∀ M,CpAt F (M :: L :: R) 0 → ADet Tryz.prog 123 [.p (.sl 16 (p.map It.enc)),.fn (.func 124) [] [.ptr 0 8 0,.ptr 0 3 0,.ptr 0 5 0,.ptr 0 4 0,.ptr 0 1 0]] (M :: L :: R) (.rsl 0 M.length p.length 16) ((M ++ (.row 42 16 p.length (itsRC M.length (p.map (It.atm g))) :: itsO (p.map (It.atm g)))) :: L :: R):=fun M h =>
  everyR_Item (It.atm g) p hp.1 124 _ M (L :: R) fun x hx M'=>by
   have:=cpItemR F g hg x (hp.2 x hx) M' (M :: L :: R) _ (h.push M')
   simpa [AV.ups,AV.up,It.atm] using this
 have hl : (p.map (It.atm g)).length = p.length:=by simp
 have m1:=itsRC_mrg 9 L.length (p.map (It.atm g))
 have m2:=itsO_mrg L.length (p.map (It.atm g))
 unfold prO
 rw [hl]
 generalize p.map (It.atm g) = ys at *
 refine ADet.mergeW mixed Tryz.call48 Tryz.func48 rfl ?_
 simp [Tryz.ntmps48,prog]
 refine ⟨_,_,iC _ ⟨rfl,rfl,rfl,rfl,rfl,rfl,rfl⟩,?_⟩
 simp [AV.mrg,AV.mrgs,-wkL]
 rw [m2]
 refine (show wkL (AObj.row 42 16 p.length (AV.mrgs L.length (itsRC 9 ys)) :: itsO ys) (.row 42 16 p.length (itsRC (L.length + 9) ys) :: itsO ys) from ?_)
 rw [m1]
 exact ⟨⟨⟨rfl,rfl,rfl⟩,wkR_refl _⟩,wkL_selfs (itsO_wk 0 ys)⟩
theorem prO_wk (N n : Nat) (ys : List It) (h : n + 6 * ys.length ≤ N) : ∀ o ∈ prO n ys,wkL [o.cut N] [o]:=fun o ho=>by
 unfold prO at ho
 rcases List.mem_cons.1 ho with rfl | ho
 ·show wkL [AObj.row _ 16 _ (AV.cuts N _)] _
  rw [itsRC_cut _ _ _ h]
  exact ⟨⟨⟨rfl,rfl,rfl⟩,wkR_refl _⟩,trivial⟩
 ·exact itsO_wk N ys o ho
theorem copyR (p : List It) (hp : PrSm p) (L : List AObj) (R : ASt) : ADet Tryz.prog 16 [.agg [.p (prog p)]] (L :: R) (.agg [.rsl 0 (L.length + 11) p.length 16]) ((L ++ (List.replicate 11 .dead ++ prO (L.length + 11) p)) :: R):=by
 have hg : AtF 49 (fun n=>n):=fun n S=>by
  refine ADet.intro mixed Tryz.call49 Tryz.func49 rfl ?_
  simp [Tryz.ntmps49]
 have hid : p.map (It.atm fun n=>n) = p:=by
  conv=>rhs; rw [← List.map_id p]
  exact List.map_congr_left fun x _=>itAtmId x
 have cC:=fun M=>copiedR 49 _ hg p hp M (L :: R)
 rw [hid] at cC
 have m1:=prO_mrg L.length 11 p
 have hwk:=wkL_selfs (prO_wk _ (L.length + 11) p (Nat.le_refl _))
 refine ADet.mergeW mixed Tryz.call16 Tryz.func16 rfl ?_
 simp [Tryz.ntmps16]
 refine ⟨_,_,cC _,?_⟩
 simp [AV.mrg,AV.mrgs,-wkL,m1]
 exact hwk
end Go.Proofs.YtlclonljdagpkaaGreatDoor
namespace Go.Proofs.YtlclonljdagpkaaGreatDoor
open Go.RowKit
theorem itsRC_len : ∀ (m : Nat) (ys : List It),(itsRC m ys).length = 16 * ys.length
 | m,[]=>rfl
 | m,y :: ys=>by rw [itsRC,List.length_append,itsRC_len]; simp [itRC]; omega
theorem itsRC_part : ∀ (m : Nat) (ys : List It) (q : Nat) (h : q < ys.length),((itsRC m ys).drop (q * 16)).take 16 = itRC ys[q] (m + 6 * q + 4) (m + 6 * q + 5)
 | m,y :: ys,0,h=>by
  rw [itsRC,Nat.zero_mul,List.drop_zero,List.take_append_of_le_length (by simp [itRC]),List.take_of_length_le (by simp [itRC])]
  rfl
 | m,y :: ys,q + 1,h=>by
  have hl : (itRC y (m + 4) (m + 5)).length = 16:=rfl
  rw [itsRC,List.drop_append,List.drop_of_length_le (by rw [hl]; omega),List.nil_append,hl,show (q + 1) * 16 - 16 = q * 16 by omega,itsRC_part (m + 6) ys q (by simpa using h)]
  have e1 : m + 6 + 6 * q + 4 = m + 6 * (q + 1) + 4:=by omega
  have e2 : m + 6 + 6 * q + 5 = m + 6 * (q + 1) + 5:=by omega
  rw [e1,e2]
  rfl
end Go.Proofs.YtlclonljdagpkaaGreatDoor
