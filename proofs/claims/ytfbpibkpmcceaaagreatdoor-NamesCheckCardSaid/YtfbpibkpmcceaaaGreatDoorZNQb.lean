/- A part of the proof. The statement is proved in the claim's last text. -/
import Derived.Test.YtfbpibkpmcceaaaGreatDoorZNQa
import Derived.Test.YtfbpibkpmcceaaaGreatDoorZNPb
import Derived.Test.YtfbpibkpmcceaaaGreatDoorZNPc
import Derived.Test.YtfbpibkpmcceaaaGreatDoorZMLt
set_option linter.unusedVariables false
set_option linter.unusedSimpArgs false
set_option maxRecDepth 100000
set_option maxHeartbeats 32000000
namespace Go.Proofs.YtfbpibkpmcceaaaGreatDoor
open Go.RowKit
attribute [local simp] List.replicate List.range List.range.loop resA resOne retA AV.cuts AV.cut AObj.cut trim wkR wkT wkL wkN wkNR wkNL wkM wkMR wkML
theorem vr_set : ∀ (l : List Fg) (i : Nat) (h : i < l.length) (b : Bool),rowC vrE (l.set i (l[i].1,b)) = (rowC vrE l).set (i * 2 + 1) (B b)
 | e :: l,0,h,b=>rfl
 | e :: l,i + 1,h,b=>by
  have:=vr_set l i (by simpa using h) b
  have e0 : ∀ x,rowC vrE (x :: l) = Sg x.1 :: B x.2 :: rowC vrE l:=fun _=>rfl
  have e1 : (i + 1) * 2 + 1 = i * 2 + 1 + 1 + 1:=by omega
  have e2 : ∀ (x : Fg) (m : List Fg),rowC vrE (x :: m) = Sg x.1 :: B x.2 :: rowC vrE m:=fun _ _=>rfl
  rw [List.set_cons_succ,e2,e2,e1,List.set_cons_succ,List.set_cons_succ,← this]
  rfl
def gone (v : List Fg) (n i : Nat) : List Fg:=v.mapIdx fun j e=>if n ≤ j ∧ j < i then (e.1,false) else e
theorem gone_len (v : List Fg) (n i : Nat) : (gone v n i).length = v.length:=by unfold gone; simp
theorem gone_zero (v : List Fg) (n : Nat) : gone v n n = v:=by
 unfold gone
 apply List.ext_getElem (by simp)
 intro j h1 h2
 rw [List.getElem_mapIdx,if_neg (by omega)]
theorem gone_all (v : List Fg) (n : Nat) : gone v n v.length = v.take n ++ offs (v.drop n):=by
 unfold gone offs
 apply List.ext_getElem (by simp; omega)
 intro j h1 h2
 rw [List.getElem_mapIdx,List.getElem_append]
 simp only [List.length_mapIdx] at h1
 split
 ·rename_i h3
  have hj : ¬ j < n:=by omega
  rw [dif_neg (by simp; omega)]
  simp only [List.getElem_map,List.getElem_drop,List.length_take]
  have e : n + (j - min n v.length) = j:=by omega
  simp only [e]
 ·rename_i h3
  rw [dif_pos (by simp; omega)]
  simp
theorem gone_get (v : List Fg) (n i j : Nat) (h0 : j < (gone v n i).length) : (gone v n i)[j] = if n ≤ j ∧ j < i then ((v[j]'(by rw [gone_len] at h0; exact h0)).1,false) else v[j]'(by rw [gone_len] at h0; exact h0):=by
 exact List.getElem_mapIdx
theorem gone_succ (v : List Fg) (n i : Nat) (h1 : n ≤ i) (h2 : i < v.length) : gone v n (i + 1) = (gone v n i).set i (((gone v n i)[i]'(by rw [gone_len]; exact h2)).1,false):=by
 apply List.ext_getElem (by rw [List.length_set,gone_len,gone_len])
 intro j h3 h4
 have h5 : j < v.length:=by rw [gone_len] at h3; exact h3
 rw [List.getElem_set]
 simp only [gone_get]
 by_cases h6 : i = j
 ·subst h6
  rw [if_pos rfl,if_pos (by omega),if_neg (by omega)]
 ·rw [if_neg h6]
  by_cases h7 : n ≤ j ∧ j < i
  ·rw [if_pos h7,if_pos (by omega)]
  ·rw [if_neg h7,if_neg (by omega)]
theorem forgetW (p : List It) (n : Nat) (w : Wf) (hn : n ≤ w.vars.length) (hw : w.vars.length ≤ 4294967295) : WC p 112 [I n] w (w.forget n):=fun S c h=>by
 have hlen : w.vars.length ≤ maxLen:=by unfold maxLen; omega
 have hself:=updW_self h
 obtain ⟨G,hG⟩ : ∃ G : Nat → Wf,G = fun i=>⟨gone w.vars n i,w.opn,w.fl⟩:=⟨_,rfl⟩
 have hG0 : G n = w:=by rw [hG]; simp only [gone_zero]
 have hGn : G w.vars.length = w.forget n:=by rw [hG]; simp only [gone_all]; rfl
 have hGl : ∀ i,(G i).vars.length = w.vars.length:=fun i=>by rw [hG]; exact gone_len _ _ _
 have hGf : ∀ i,(G i).fl.length = w.fl.length:=fun i=>by rw [hG]
 have hGo : ∀ i,(G i).opn = w.opn:=fun i=>by rw [hG]
 have hGs : ∀ i,n ≤ i → i < w.vars.length → set2 (updW p S c (G i)) c.d c.jV (.row 117 2 w.vars.length ((rowC vrE (G i).vars).set (i * 2 + 1) (B false))) = updW p S c (G (i + 1)):=fun i h1 h2=>by
  have e1:=gone_succ w.vars n i h1 h2
  have e2:=vr_set (gone w.vars n i) i (by rw [gone_len]; exact h2) false
  rw [← e1] at e2
  have e3 : (G i).vars = gone w.vars n i:=by rw [hG]
  rw [e3,← e2]
  have e4 : updW p S c (G (i + 1)) = set2 (updQ p S (c.q (G (i + 1))) (G (i + 1)).fl) c.d c.jV (.row 117 2 (gone w.vars n (i + 1)).length (rowC vrE (gone w.vars n (i + 1)))):=by rw [hG]; rfl
  have e5 : updW p S c (G i) = set2 (updQ p S (c.q (G i)) (G i).fl) c.d c.jV (rvO (G i).vars):=rfl
  have e6 : updQ p S (c.q (G (i + 1))) (G (i + 1)).fl = updQ p S (c.q (G i)) (G i).fl:=by
   unfold updQ Wg.q
   simp only [hGl,hGo]
   rw [hG]
  rw [e4,e5,set2_set2,e6,gone_len]
 rw [← hGn]
 clear hG
 have ho:=h.q.w
 have hA:=fun i=>h.updW (G i)
 have hv:=fun i=>(hA i).v
 have hw2:=fun i=>(hA i).q.w
 simp only [wkC,rvO,Wg.q,hGl,hGf,hGo] at ho hv hw2
 have hrl:=fun i=>vr_len (G i).vars
 simp only [hGl] at hrl
 refine ADet.intro mixed Tryz.call112 Tryz.func112 rfl ?_
 simp [Tryz.ntmps112]
 refine awp_loop (fun i : Nat=>n ≤ i ∧ i ≤ w.vars.length) (fun i=>([.ptr (c.d + 1) c.jW 0,.any,.any,.any,I i] ++ List.replicate 17 .any)) (fun i=>[] :: updW p S c (G i)) (fun i=>w.vars.length - i) n ⟨Nat.le_refl _,hn⟩ ?_ ?_ ?_
 ·simp
 ·simp [hG0,hself]
 rintro i ⟨h1,h2⟩
 by_cases hlt : i < w.vars.length
 ·have hlt' : (i : Int) < (w.vars.length : Int):=by omega
  have hw3:=wrap_succ hlt
  have hmu : w.vars.length - (i + 1) < w.vars.length - i:=by omega
  have hs:=hGs i h1 hlt
  have hv1:=hv i
  have hw1:=hw2 i
  have hr1:=hrl i
  have hle : i * 2 + 1 + 1 ≤ w.vars.length * 2:=by omega
  generalize hrc : rowC vrE (G i).vars = rc at *
  simp [hlt,hlt',hv1,hw1,hr1,hle,set2_suc]
  exact ⟨i + 1,⟨by omega,hlt⟩,hmu,hw3,hs⟩
 ·have hlt' : ¬ (i : Int) < (w.vars.length : Int):=by omega
  have hq2 : i = w.vars.length:=by omega
  subst hq2
  have hw1:=hw2 w.vars.length
  simp [hw1]
end Go.Proofs.YtfbpibkpmcceaaaGreatDoor
namespace Go.Proofs.YtfbpibkpmcceaaaGreatDoor
open Go.RowKit
attribute [local simp] List.replicate List.range List.range.loop resA resOne retA virtL virtO virt_get markL markO markR_get rowA awpI_nil awpI_cons List.forall_mem_cons List.contains_cons List.contains_nil List.find? nextD_eq awpD_nil awpD_cons LCp LCl refL
theorem rightW (p : List It) (hp : p.length ≤ 20000) (e : Ex) (hpath : e.op = 19 → e.place.path.length = e.args.length) (hal : e.args.length ≤ 4000000000) (w : Wf) (hw : w.vars.length ≤ 4294967295) (S : ASt) (c : Wg) (h : WAt p S c w) : ADet Tryz.prog 114 [.ptr c.d c.jW 0,exV e] S (B (rightR p w.vars e.op e.name e.second e.place e.args.length)) S:=by
 refine ADet.okA Tryz.call114 1 6 rfl rfl fun hok=>?_
 have hlen:=okl hok
 have ho:=h.q.w
 simp only [wkC,Wg.q] at ho
 have hth:=fun L=>thereW p e.place.name w hw (L :: S) c.up (h.cons L)
 simp only [Wg.up] at hth
 unfold rightR
 refine ADet.intro mixed Tryz.call114 Tryz.func114 rfl ?_
 by_cases h18 : e.op = 18
 ·have hfc:=fun S=>findC p hp true e.name S
  simp only [if_true] at hfc
  simp [Tryz.ntmps114,h18]
  refine awp_draw [] (by kernel_rfl) (by kernel_rfl) ?_
  simp [ho]
  rcases @find_fx p e.name with ⟨h1,h2⟩ | ⟨i,hi,h1,h2⟩
  ·rw [h1] at hfc
   refine ⟨_,_,hfc _,?_⟩
   simp [ixV]
   refine awp_draw [] (by kernel_rfl) (by kernel_rfl) ?_
   simp [h2]
  ·rw [h1] at hfc
   rw [h2]
   have hi' : (i : Int) < (p.length : Int):=by omega
   have hneg : ¬ ((i : Int) < 0):=by omega
   have hge : (0 : Int) ≤ (i : Int):=by omega
   generalize hx : p[i] = x at *
   have hbe : ((x.fields.length : Int) == (e.args.length : Int)) = decide (x.fields.length = e.args.length):=by rw [Bool.eq_iff_iff]; simp; omega
   refine ⟨_,_,hfc _,?_⟩
   simp [ixV]
   refine awp_draw [] (by kernel_rfl) (by kernel_rfl) ?_
   simp [hneg,hge,hi,hi',hx,It.enc,ho,hbe]
 by_cases h19 : e.op = 19
 ·have hfc:=fun S=>firstC p hp 1 e.name S
  have hli:=fun x S=>literalC x e (hpath h19) S
  simp only [kindV] at hfc
  simp [Tryz.ntmps114,h18,h19]
  refine awp_drawL [(10,11,6)] [] (by kernel_rfl) (by kernel_rfl) (by kernel_rfl) (by simp) ?_
  simp [ho]
  cases hk : itemK p 1 e.name with
  | none =>
   rw [hk] at hfc
   refine ⟨_,_,hfc _,?_⟩
   simp
  | some x =>
   rw [hk] at hfc
   have hli : ∀ S,ADet Tryz.prog 157 [itV x,.agg [U 19,I e.int,Sg e.name,Sg e.second,Sg e.place.name,.p (strs e.place.path),.p (.sl 8 (e.args.map Ex.enc)),I e.pos]] S (B (decide (x.fields.length = e.args.length) && litB x.fields e.place.path)) S:=fun S=>by
    have:=hli x S
    unfold exV at this
    rw [h19] at this
    exact this
   refine ⟨_,_,hfc _,?_⟩
   simp
   refine ⟨_,_,hli _,?_⟩
   simp
 by_cases h20 : e.op = 20
 ·have hfc:=fun S=>firstC p hp 2 e.name S
  simp only [kindV] at hfc
  have hpa:=fun x S=>payloadC x e.second S
  simp [Tryz.ntmps114,h18,h19,h20]
  refine awp_drawL [(10,11,8)] [] (by kernel_rfl) (by kernel_rfl) (by kernel_rfl) (by simp) ?_
  simp [ho]
  cases hk : itemK p 2 e.name with
  | none =>
   rw [hk] at hfc
   refine ⟨_,_,hfc _,?_⟩
   simp
   refine awp_draw [(7,5)] (by kernel_rfl) (by kernel_rfl) ?_
   simp
  | some x =>
   rw [hk] at hfc
   refine ⟨_,_,hfc _,?_⟩
   simp
   refine awp_draw [(7,5)] (by kernel_rfl) (by kernel_rfl) ?_
   simp
   refine ⟨_,_,hpa x _,?_⟩
   have hwr : IntKind.i64.wrap (1 + (e.args.length : Int)) = 1 + (e.args.length : Int):=by
    rw [IntWalk.i64_in _ (by omega)]
   have hbe : (payR x.fields e.second == 1 + (e.args.length : Int)) = decide (payR x.fields e.second = 1 + (e.args.length : Int)):=by rw [Bool.eq_iff_iff]; simp
   simp [hwr,hbe]
 have b18 : (e.op == 18) = false:=by simpa using h18
 have b19 : (e.op == 19) = false:=by simpa using h19
 have b20 : (e.op == 20) = false:=by simpa using h20
 cases hs : sEq e.place.name emS with
 | true =>
  simp [Tryz.ntmps114,h18,h19,h20,b18,b19,b20,hs]
 | false =>
  simp [Tryz.ntmps114,h18,h19,h20,b18,b19,b20,hs]
  refine ⟨_,_,hth _,?_⟩
  simp
end Go.Proofs.YtfbpibkpmcceaaaGreatDoor
namespace Go.Proofs.YtfbpibkpmcceaaaGreatDoor
open Go.RowKit
attribute [local simp] List.replicate List.range List.range.loop resA resOne retA AV.cuts AV.cut AObj.cut trim wkR wkT wkL wkN wkNR wkNL wkM wkMR wkML
theorem exRf_len (p : List It) (m : List Fg) : ∀ t : Ex,(t.rf p m).length ≤ t.nd:=by
 refine Ex.ind fun t ih=>?_
 rw [exRf,exNd,List.length_append]
 have h1:=wrongN_len (rightR p m t.op t.name t.second t.place t.args.length) 60 t.pos
 have h2:=flatN_le (Ex.rf p m) Ex.nd t.args ih
 omega
theorem Wf.add_nil (w : Wf) : w.add [] = w:=by unfold Wf.add; simp
theorem Wf.add_add (w : Wf) (a b : List Flt) : (w.add a).add b = w.add (a ++ b):=by unfold Wf.add; simp
theorem exprW (p : List It) (hp : p.length ≤ 20000) : ∀ (e : Ex) (d : Int) (w : Wf),e.whole d = true → w.vars.length ≤ 4294967295 → w.fl.length + e.nd ≤ 4000000000 → WC p 67 [exV e] w (w.add (e.rf p w.vars)):=by
 refine Ex.ind fun e ih dd w hwh hw hl=>fun S c h=>?_
 refine ADet.okA Tryz.call67 1 6 rfl rfl fun hok=>?_
 have hlen:=okl hok
 have hnd:=exNd e
 obtain ⟨hpath,hargs⟩:=exWhole_path hwh
 obtain ⟨W,hW⟩ : ∃ W,W = wrongL (rightR p w.vars e.op e.name e.second e.place e.args.length) 60 e.pos:=⟨_,rfl⟩
 obtain ⟨F,hF⟩ : ∃ F : Nat → List Flt,F = fun q=>W ++ (e.args.take q).flatMap (Ex.rf p w.vars):=⟨_,rfl⟩
 have hF0 : F 0 = W:=by rw [hF]; simp
 have hFn : F e.args.length = e.rf p w.vars:=by rw [hF,hW,exRf]; simp
 have hFs : ∀ q (h : q < e.args.length),F (q + 1) = F q ++ e.args[q].rf p w.vars:=fun q h=>by rw [hF]; simp only [List.take_succ_eq_append_getElem h,List.flatMap_append,List.append_assoc]; simp
 have hWl : W.length ≤ 1:=by rw [hW]; exact wrongN_len _ _ _
 have hFb : ∀ q (h : q < e.args.length),(w.add (F q)).fl.length + e.args[q].nd ≤ 4000000000:=fun q h=>by
  have e1:=sum_mem Ex.nd h
  have e2:=flatN_le (Ex.rf p w.vars) Ex.nd (e.args.take q) fun x _=>exRf_len p w.vars x
  rw [hF]
  simp only [Wf.add,List.length_append]
  omega
 have hal : e.args.length ≤ 4000000000:=by
  have key : ∀ l : List Ex,l.length ≤ (l.map Ex.nd).sum:=fun l=>by
   induction l with
   | nil=>simp
   | cons x l ih=>rw [List.length_cons,List.map_cons,List.sum_cons,exNd x]; omega
  have:=key e.args
  omega
 clear hF
 rw [← hFn]
 have hs:=updW_self h
 have hrt:=fun L : List AObj=>rightW p hp e hpath hal w hw (L :: S) c.up (h.cons L)
 simp only [Wg.up] at hrt
 have hwr:=fun L=>((wrongQ p 60 e.pos w.fl (by omega)).inW).at0 h L
 generalize hb : rightR p w.vars e.op e.name e.second e.place e.args.length = b at *
 refine ADet.intro mixed Tryz.call67 Tryz.func67 rfl ?_
 simp [Tryz.ntmps67]
 refine ⟨_,_,hrt _,?_⟩
 cases b with
 | true =>
  have hw0 : updW p S c (w.add W) = S:=by rw [hW]; simp only [wrongL,if_true,Wf.add_nil]; exact hs
  simp
  refine awp_loop (fun q : Nat=>q ≤ e.args.length) (fun q=>([.ptr (c.d + 1) c.jW 0,.any,.any,.ptr 0 0 0,I q] ++ List.replicate 22 .any)) (fun q=>[.cells [U e.op,I e.int,Sg e.name,Sg e.second,Sg e.place.name,.p (strs e.place.path),.p (.sl 8 (e.args.map Ex.enc)),I e.pos] 45] :: updW p S c (w.add (F q))) (fun q=>e.args.length - q) 0 (Nat.zero_le _) ?_ ?_ ?_
  ·simp
  ·simp [hF0,hw0]
  intro q hq
  by_cases hlt : q < e.args.length
  ·have hlt' : (q : Int) < (e.args.length : Int):=by omega
   have hw2:=wrap_succ hlt
   have hF1:=hFs q hlt
   have hmu : e.args.length - (q + 1) < e.args.length - q:=by omega
   have hx:=fun L=>(ih _ (List.getElem_mem hlt) (dd - 1) (w.add (F q)) (hargs _ (List.getElem_mem hlt)) hw (hFb q hlt)).at h L
   have e1 : (w.add (F q)).add (e.args[q].rf p (w.add (F q)).vars) = w.add (F (q + 1)):=by rw [Wf.add_add,hF1]; rfl
   rw [e1] at hx
   generalize he : e.args[q] = x at *
   simp [hlt,hlt',he,exEnc]
   refine ⟨_,_,hx _,?_⟩
   simp
   exact ⟨q + 1,hlt,hmu,hw2,rfl⟩
  ·have hlt' : ¬ (q : Int) < (e.args.length : Int):=by omega
   have hq2 : q = e.args.length:=by omega
   subst hq2
   simp
 | false =>
  have hw0 : w.add W = ⟨w.vars,w.opn,w.fl ++ [(60,e.pos)]⟩:=by rw [hW]; rfl
  simp
  refine ⟨_,_,hwr _,?_⟩
  rw [← hw0]
  simp
  refine awp_loop (fun q : Nat=>q ≤ e.args.length) (fun q=>([.ptr (c.d + 1) c.jW 0,.any,.any,.ptr 0 0 0,I q] ++ List.replicate 22 .any)) (fun q=>[.cells [U e.op,I e.int,Sg e.name,Sg e.second,Sg e.place.name,.p (strs e.place.path),.p (.sl 8 (e.args.map Ex.enc)),I e.pos] 45] :: updW p S c (w.add (F q))) (fun q=>e.args.length - q) 0 (Nat.zero_le _) ?_ ?_ ?_
  ·simp
  ·simp [hF0,hw0]
  intro q hq
  by_cases hlt : q < e.args.length
  ·have hlt' : (q : Int) < (e.args.length : Int):=by omega
   have hw2:=wrap_succ hlt
   have hF1:=hFs q hlt
   have hmu : e.args.length - (q + 1) < e.args.length - q:=by omega
   have hx:=fun L=>(ih _ (List.getElem_mem hlt) (dd - 1) (w.add (F q)) (hargs _ (List.getElem_mem hlt)) hw (hFb q hlt)).at h L
   have e1 : (w.add (F q)).add (e.args[q].rf p (w.add (F q)).vars) = w.add (F (q + 1)):=by rw [Wf.add_add,hF1]; rfl
   rw [e1] at hx
   generalize he : e.args[q] = x at *
   simp [hlt,hlt',he,exEnc]
   refine ⟨_,_,hx _,?_⟩
   simp
   exact ⟨q + 1,hlt,hmu,hw2,rfl⟩
  ·have hlt' : ¬ (q : Int) < (e.args.length : Int):=by omega
   have hq2 : q = e.args.length:=by omega
   subst hq2
   simp
end Go.Proofs.YtfbpibkpmcceaaaGreatDoor
namespace Go.Proofs.YtfbpibkpmcceaaaGreatDoor
open Go.RowKit
attribute [local simp] List.replicate List.range List.range.loop resA resOne retA AV.cuts AV.cut AObj.cut trim wkR wkT wkL wkN wkNR wkNL wkM wkMR wkML virtL virtO virt_get markL markO markR_get rowA awpI_nil awpI_cons List.forall_mem_cons List.contains_cons List.contains_nil List.find? nextD_eq awpD_nil awpD_cons LCp LCl refL
theorem armsR_app (x : It) : ∀ (a b met : List Fg),armsR x met (a ++ b) = (armsR x met a && armsR x (met ++ a) b)
 | [],b,met=>by simp [armsR]
 | y :: a,b,met=>by
  simp only [List.cons_append,armsR,armsR_app x a b]
  simp [Bool.and_assoc]
def hasV (l : List Ar) (s : ByteArray) : Bool:=l.any fun a=>sEq a.variant s
def armB (x : It) (met : List Ar) (a : Ar) : Bool:=decide (payR x.fields a.variant = if (!sEq a.name emS) = true then 2 else 1) && !hasV met a.variant
theorem armsR_one (x : It) (met : List Ar) (a : Ar) : armsR x (met.map armF) [armF a] = armB x met a:=by
 unfold armsR armsR armB hasV armF
 rw [List.any_map,Bool.and_true]
 rfl
theorem armsR_step (x : It) (l : List Ar) {q : Nat} (h : q < l.length) (hall : armsR x [] ((l.take q).map armF) = true) : armsR x [] ((l.take (q + 1)).map armF) = armB x (l.take q) l[q]:=by
 rw [List.take_succ_eq_append_getElem h,List.map_append,armsR_app,hall,Bool.true_and,List.nil_append]
 exact armsR_one x _ _
theorem coversR_no (x : It) (l : List Ar) {q : Nat} (h : q < l.length) (hall : armsR x [] ((l.take q).map armF) = true) (hno : armB x (l.take q) l[q] = false) : coversR x (l.map armF) = false:=by
 unfold coversR
 have e : l = l.take (q + 1) ++ l.drop (q + 1):=(List.take_append_drop _ _).symm
 have : armsR x [] (l.map armF) = false:=by
  conv=>lhs; rw [e]
  rw [List.map_append,armsR_app,armsR_step x l h hall,hno,Bool.false_and]
 rw [this,Bool.false_and]
theorem anyF (l : List Ar) (s : ByteArray) : ((l.map armF).any fun a=>sEq a.1 s) = hasV l s:=by
 unfold hasV
 rw [List.any_map]
 rfl
theorem hasV_succ (l : List Ar) (s : ByteArray) {q : Nat} (h : q < l.length) : hasV (l.take (q + 1)) s = (hasV (l.take q) s || sEq l[q].variant s):=by
 unfold hasV
 rw [List.take_succ_eq_append_getElem h,List.any_append]
 simp
theorem armsW (p : List It) (hp : p.length ≤ 20000) (s : St) (hx : ∀ x ∈ p,x.fields.length ≤ 20000) (hal : s.arms.length ≤ 20000) (w : Wf) (S : ASt) (c : Wg) (h : WAt p S c w) : ADet Tryz.prog 156 [.ptr c.d c.jW 0,.agg (stV s)] S (B (matchR p s.second (s.arms.map armF))) S:=by
 have ho:=h.q.w
 simp only [wkC,Wg.q] at ho
 have hlen : s.arms.length ≤ maxLen:=by unfold maxLen; omega
 have hfc:=fun S=>firstC p hp 2 s.second S
 simp only [kindV] at hfc
 unfold matchR
 refine ADet.intro mixed Tryz.call156 Tryz.func156 rfl ?_
 simp [Tryz.ntmps156]
 refine awp_drawL [(10,11,5)] [] (by kernel_rfl) (by kernel_rfl) (by kernel_rfl) (by simp) ?_
 simp [ho]
 cases hk : itemK p 2 s.second with
 | none =>
  rw [hk] at hfc
  refine ⟨_,_,hfc _,?_⟩
  simp
 | some x =>
  rw [hk] at hfc
  have hxl : x.fields.length ≤ 20000:=by
   unfold itemK firstIt at hk
   cases hf : p.find? fun x=>(decide (x.kind ≠ 3)) && sEq x.name s.second with
   | none=>rw [hf] at hk; cases hk
   | some y =>
    rw [hf] at hk
    simp only [Option.bind_some] at hk
    split at hk
    ·cases hk; exact hx _ (List.mem_of_find?_eq_some hf)
    ·cases hk
  have hxm : x.fields.length ≤ maxLen:=by unfold maxLen; omega
  refine ⟨_,_,hfc _,?_⟩
  simp
  refine awp_loop (fun q : Nat=>q ≤ s.arms.length ∧ armsR x [] ((s.arms.take q).map armF) = true) (fun q=>([.any,.any,.any,.ptr 0 0 0,.any,.ptr 0 1 0,.any,I q] ++ List.replicate 91 .any)) (fun q=>[.cells (stV s) 60,.cells (itU x) 47] :: S) (fun q=>s.arms.length - q) 0 ⟨Nat.zero_le _,rfl⟩ ?_ ?_ ?_
  ·simp
  ·simp
  rintro q ⟨hq,hall⟩
  by_cases hlt : q < s.arms.length
  ·have hlt' : (q : Int) < (s.arms.length : Int):=by omega
   have hw2:=wrap_succ hlt
   have hmu : s.arms.length - (q + 1) < s.arms.length - q:=by omega
   have hst:=armsR_step x s.arms hlt hall
   have hno:=coversR_no x s.arms hlt hall
   have hpa:=fun S=>payloadC x s.arms[q].variant S
   unfold armB at hst hno
   generalize ha : s.arms[q] = a at *
   cases hs : sEq a.name emS with
   | true =>
    by_cases hpy : payR x.fields a.variant = 1
    ·rw [hs,hpy] at hst hno
     rw [hpy] at hpa
     simp [hlt,hlt',ha,Ar.enc,hs]
     refine awp_draw [] (by kernel_rfl) (by kernel_rfl) ?_
     simp [hlt,ha,Ar.enc]
     refine ⟨_,_,hpa _,?_⟩
     simp
     refine awp_loop (fun k : Nat=>k ≤ q ∧ hasV (s.arms.take k) a.variant = false) (fun k=>([.any,.any,.any,.ptr 0 0 0,.any,.ptr 0 1 0,.any,I q,.any,I k] ++ List.replicate 89 .any)) (fun k=>[.cells (stV s) 60,.cells (itU x) 47] :: S) (fun k=>q - k) 0 ⟨Nat.zero_le _,rfl⟩ ?_ ?_ ?_
     ·simp
     ·simp
     rintro k ⟨hkq,hnk⟩
     by_cases hlk : k < q
     ·have hlk' : (k : Int) < (q : Int):=by omega
      have hlk2 : k < s.arms.length:=by omega
      have hw3:=wrap_succ hlk (by omega)
      have hmu3 : q - (k + 1) < q - k:=by omega
      have hsc:=hasV_succ s.arms a.variant hlk2
      rw [hnk,Bool.false_or] at hsc
      have hyes : sEq s.arms[k].variant a.variant = true → hasV (s.arms.take q) a.variant = true:=fun h0=>by
       unfold hasV
       refine List.any_eq_true.2 ⟨s.arms[k],List.mem_take_iff_getElem.2 ⟨k,by omega,rfl⟩,h0⟩
      generalize hb : s.arms[k] = b at *
      cases hv : sEq b.variant a.variant with
      | true =>
       have hn:=hno (by rw [hyes hv]; simp)
       simp [hlk,hlk']
       refine awp_draw [] (by kernel_rfl) (by kernel_rfl) ?_
       simp [hlt,hlk2,ha,hb,Ar.enc,hv,hn]
      | false =>
       simp [hlk,hlk']
       refine awp_draw [] (by kernel_rfl) (by kernel_rfl) ?_
       simp [hlt,hlk2,ha,hb,Ar.enc,hv]
       exact ⟨k + 1,⟨hlk,by rw [hsc,hv]⟩,hmu3,hw3⟩
     ·have hlk' : ¬ (k : Int) < (q : Int):=by omega
      have hkq2 : k = q:=by omega
      subst hkq2
      rw [hnk] at hst
      simp [hlk']
      exact ⟨k + 1,⟨hlt,by rw [← List.map_take,hst]; simp⟩,hmu,hw2⟩
    ·have hpb : (payR x.fields a.variant != 1) = true:=by simpa using hpy
     have hn:=hno (by rw [hs]; simp [hpy])
     simp [hlt,hlt',ha,Ar.enc,hs]
     refine awp_draw [] (by kernel_rfl) (by kernel_rfl) ?_
     simp [hlt,ha,Ar.enc]
     refine ⟨_,_,hpa _,?_⟩
     simp [hpb,hn]
   | false =>
    by_cases hpy : payR x.fields a.variant = 2
    ·rw [hs,hpy] at hst hno
     rw [hpy] at hpa
     simp [hlt,hlt',ha,Ar.enc,hs]
     refine awp_draw [] (by kernel_rfl) (by kernel_rfl) ?_
     simp [hlt,ha,Ar.enc]
     refine ⟨_,_,hpa _,?_⟩
     simp
     refine awp_loop (fun k : Nat=>k ≤ q ∧ hasV (s.arms.take k) a.variant = false) (fun k=>([.any,.any,.any,.ptr 0 0 0,.any,.ptr 0 1 0,.any,I q,.any,I k] ++ List.replicate 89 .any)) (fun k=>[.cells (stV s) 60,.cells (itU x) 47] :: S) (fun k=>q - k) 0 ⟨Nat.zero_le _,rfl⟩ ?_ ?_ ?_
     ·simp
     ·simp
     rintro k ⟨hkq,hnk⟩
     by_cases hlk : k < q
     ·have hlk' : (k : Int) < (q : Int):=by omega
      have hlk2 : k < s.arms.length:=by omega
      have hw3:=wrap_succ hlk (by omega)
      have hmu3 : q - (k + 1) < q - k:=by omega
      have hsc:=hasV_succ s.arms a.variant hlk2
      rw [hnk,Bool.false_or] at hsc
      have hyes : sEq s.arms[k].variant a.variant = true → hasV (s.arms.take q) a.variant = true:=fun h0=>by
       unfold hasV
       refine List.any_eq_true.2 ⟨s.arms[k],List.mem_take_iff_getElem.2 ⟨k,by omega,rfl⟩,h0⟩
      generalize hb : s.arms[k] = b at *
      cases hv : sEq b.variant a.variant with
      | true =>
       have hn:=hno (by rw [hyes hv]; simp)
       simp [hlk,hlk']
       refine awp_draw [] (by kernel_rfl) (by kernel_rfl) ?_
       simp [hlt,hlk2,ha,hb,Ar.enc,hv,hn]
      | false =>
       simp [hlk,hlk']
       refine awp_draw [] (by kernel_rfl) (by kernel_rfl) ?_
       simp [hlt,hlk2,ha,hb,Ar.enc,hv]
       exact ⟨k + 1,⟨hlk,by rw [hsc,hv]⟩,hmu3,hw3⟩
     ·have hlk' : ¬ (k : Int) < (q : Int):=by omega
      have hkq2 : k = q:=by omega
      subst hkq2
      rw [hnk] at hst
      simp [hlk']
      exact ⟨k + 1,⟨hlt,by rw [← List.map_take,hst]; simp⟩,hmu,hw2⟩
    ·have hpb : (payR x.fields a.variant != 2) = true:=by simpa using hpy
     have hn:=hno (by rw [hs]; simp [hpy])
     simp [hlt,hlt',ha,Ar.enc,hs]
     refine awp_draw [] (by kernel_rfl) (by kernel_rfl) ?_
     simp [hlt,ha,Ar.enc]
     refine ⟨_,_,hpa _,?_⟩
     simp [hpb,hn]
  ·have hlt' : ¬ (q : Int) < (s.arms.length : Int):=by omega
   have hq2 : q = s.arms.length:=by omega
   subst hq2
   rw [List.take_length] at hall
   have hcv : coversR x (s.arms.map armF) = x.fields.all fun v=>hasV s.arms v.name:=by
    unfold coversR
    rw [hall,Bool.true_and]
    simp only [anyF]
   rw [hcv]
   simp
   refine awp_loop (fun i : Nat=>i ≤ x.fields.length ∧ ∀ j (h : j < x.fields.length),j < i → hasV s.arms x.fields[j].name = true) (fun i=>([.any,.any,.any,.ptr 0 0 0,.any,.ptr 0 1 0,.any,.any,.any,.any,I i] ++ List.replicate 88 .any)) (fun i=>[.cells (stV s) 60,.cells (itU x) 47] :: S) (fun i=>x.fields.length - i) 0 ⟨Nat.zero_le _,fun j h hj=>by omega⟩ ?_ ?_ ?_
   ·simp
   ·simp
   rintro i ⟨hi,hal2⟩
   by_cases hli : i < x.fields.length
   ·have hli' : (i : Int) < (x.fields.length : Int):=by omega
    have hw3:=wrap_succ hli hxm
    have hmu3 : x.fields.length - (i + 1) < x.fields.length - i:=by omega
    have hnx : hasV s.arms x.fields[i].name = true → ∀ j (h : j < x.fields.length),j < i + 1 → hasV s.arms x.fields[j].name = true:=fun h0 j h hj=>by
     rcases Nat.lt_or_ge j i with h' | h'
     ·exact hal2 j h h'
     ·obtain rfl : j = i:=by omega
      exact h0
    have hbad : hasV s.arms x.fields[i].name = false → (x.fields.all fun v=>hasV s.arms v.name) = false:=fun h0=>by
     rw [List.all_eq_false]
     exact ⟨x.fields[i],List.getElem_mem hli,by rw [h0]; simp⟩
    generalize hf : x.fields[i] = f at *
    simp [hli,hli']
    refine awp_loop (fun k : Nat=>k ≤ s.arms.length) (fun k=>([.any,.any,.any,.ptr 0 0 0,.any,.ptr 0 1 0,.any,.any,.any,.any,I i,B (hasV (s.arms.take k) f.name),I k] ++ List.replicate 86 .any)) (fun k=>[.cells (stV s) 60,.cells (itU x) 47] :: S) (fun k=>s.arms.length - k) 0 (Nat.zero_le _) ?_ ?_ ?_
    ·simp [hasV]
    ·simp
    intro k hkq
    by_cases hlk : k < s.arms.length
    ·have hlk' : (k : Int) < (s.arms.length : Int):=by omega
     have hw4:=wrap_succ hlk
     have hmu4 : s.arms.length - (k + 1) < s.arms.length - k:=by omega
     have hsc:=hasV_succ s.arms f.name hlk
     generalize hasV (s.arms.take k) f.name = fd at *
     generalize hb : s.arms[k] = b at *
     simp [hlk,hlk']
     refine awp_draw [] (by kernel_rfl) (by kernel_rfl) ?_
     cases fd with
     | true =>
      rw [Bool.true_or] at hsc
      simp [hli,hlk,hb,hf,Ar.enc,Fi.enc]
      exact ⟨k + 1,hlk,hmu4,hsc,hw4⟩
     | false =>
      rw [Bool.false_or] at hsc
      simp [hli,hlk,hb,hf,Ar.enc,Fi.enc]
      exact ⟨k + 1,hlk,hmu4,hsc.symm,hw4⟩
    ·have hlk' : ¬ (k : Int) < (s.arms.length : Int):=by omega
     have hkq2 : k = s.arms.length:=by omega
     subst hkq2
     rw [List.take_length]
     cases hh : hasV s.arms f.name with
     | true =>
      simp [hlk']
      exact ⟨i + 1,⟨hli,hnx hh⟩,hmu3,hw3⟩
     | false =>
      rw [hbad hh]
      simp [hlk']
   ·have hli' : ¬ (i : Int) < (x.fields.length : Int):=by omega
    have : (x.fields.all fun v=>hasV s.arms v.name) = true:=by
     rw [List.all_eq_true]
     intro v hv
     obtain ⟨j,hj,rfl⟩:=List.mem_iff_getElem.1 hv
     exact hal2 j hj (by omega)
    rw [this]
    simp [hli']
end Go.Proofs.YtfbpibkpmcceaaaGreatDoor
namespace Go.Proofs.YtfbpibkpmcceaaaGreatDoor
open Go.RowKit
attribute [local simp] List.replicate List.range List.range.loop resA resOne retA virtL virtO virt_get markL markO markR_get rowA awpI_nil awpI_cons List.forall_mem_cons List.contains_cons List.contains_nil List.find? nextD_eq awpD_nil awpD_cons LCp LCl refL
theorem itselfW (p : List It) (hp : p.length ≤ 20000) (s : St) (hx : ∀ x ∈ p,x.fields.length ≤ 20000) (hal : s.arms.length ≤ 20000) (w : Wf) (hw : w.vars.length ≤ 4294967295) (S : ASt) (c : Wg) (h : WAt p S c w) : ADet Tryz.prog 109 [.ptr c.d c.jW 0,.agg (stV s)] S (B (itselfR p w s.op s.name s.second s.names.length s.place (s.arms.map armF))) S:=by
 have ho:=h.q.w
 simp only [wkC,Wg.q] at ho
 have hth:=fun s L=>thereW p s w hw (L :: S) c.up (h.cons L)
 have har:=fun L=>armsW p hp s hx hal w (L :: S) c.up (h.cons L)
 simp only [Wg.up] at hth har
 have hfc:=fun S=>firstC p hp 1 s.name S
 simp only [kindV] at hfc
 unfold itselfR takeB
 refine ADet.intro mixed Tryz.call109 Tryz.func109 rfl ?_
 by_cases o2 : s.op = 2
 ·simp [Tryz.ntmps109,o2]
  refine awp_drawL [(10,11,5)] [] (by kernel_rfl) (by kernel_rfl) (by kernel_rfl) (by simp) ?_
  simp [ho]
  cases hk : itemK p 1 s.name with
  | none =>
   rw [hk] at hfc
   refine ⟨_,_,hfc _,?_⟩
   simp
  | some x =>
   rw [hk] at hfc
   have hbe : ((x.fields.length : Int) == (s.names.length : Int)) = decide (x.fields.length = s.names.length):=by rw [Bool.eq_iff_iff]; simp; omega
   refine ⟨_,_,hfc _,?_⟩
   simp [strs,hbe]
 by_cases o3 : s.op = 3
 ·simp [Tryz.ntmps109,o3]
  refine ⟨_,_,hth _ _,?_⟩
  simp
 by_cases o11 : s.op = 11
 ·simp [Tryz.ntmps109,o11]
  refine ⟨_,_,hth _ _,?_⟩
  simp
 by_cases o5 : s.op = 5
 ·simp [Tryz.ntmps109,o5]
  refine ⟨_,_,hth _ _,?_⟩
  simp
 by_cases o8 : s.op = 8
 ·have har : ∀ L : List AObj,ADet Tryz.prog 156 [.ptr (c.d + 1) c.jW 0,.agg (stV s)] (L :: S) (B (matchR p s.second (s.arms.map armF))) (L :: S):=har
  simp [Tryz.ntmps109,o8]
  refine ⟨_,_,hth _ _,?_⟩
  cases hb : vIs w.vars s.name with
  | false=>simp
  | true =>
   simp
   rw [← o8]
   refine ⟨_,_,har _,?_⟩
   simp
 have b2 : (s.op == 2) = false:=by simpa using o2
 have b3 : (s.op == 3) = false:=by simpa using o3
 have b5 : (s.op == 5) = false:=by simpa using o5
 have b8 : (s.op == 8) = false:=by simpa using o8
 have b11 : (s.op == 11) = false:=by simpa using o11
 by_cases o10 : s.op = 10
 ·have hop : decide (0 < (w.opn : Int)) = decide (0 < w.opn):=decide_eq_decide.2 (by omega)
  simp [Tryz.ntmps109,o10,ho,hop]
 have b10 : (s.op == 10) = false:=by simpa using o10
 simp [Tryz.ntmps109,o2,o3,o5,o8,o10,o11,b2,b3,b5,b8,b10,b11]
end Go.Proofs.YtfbpibkpmcceaaaGreatDoor
