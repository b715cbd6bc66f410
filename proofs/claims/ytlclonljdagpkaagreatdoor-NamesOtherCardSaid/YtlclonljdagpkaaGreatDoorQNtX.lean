/- A part of the proof. The statement is proved in the claim's last text. -/
import Derived.Test.YtlclonljdagpkaaGreatDoorQNtV
import Derived.Test.YtlclonljdagpkaaGreatDoorQMLt
import Derived.Test.YtlclonljdagpkaaGreatDoorQMNp
import Derived.Test.YtlclonljdagpkaaGreatDoorQNtW
import Derived.Test.YtlclonljdagpkaaGreatDoorQNQo
set_option linter.unusedVariables false
set_option linter.unusedSimpArgs false
set_option maxRecDepth 100000
set_option maxHeartbeats 32000000
namespace Go.Proofs.YtlclonljdagpkaaGreatDoor
open Go.RowKit
attribute [local simp] List.replicate List.range List.range.loop resA zR retA AV.cuts AV.cut AObj.cut trim wkR wkT wkL wkN wkNR wkNL wkM wkMR wkML
def zB7 (a b s : ByteArray) : ByteArray:=if sEq s a = true then b else s
theorem zWs (s a b : ByteArray) (S : ASt) : ADet Tryz.prog 19 [Sg s,Sg a,Sg b] S (Sg (zB7 a b s)) S:=by
 refine ADet.intro mixed Tryz.call19 Tryz.func19 rfl ?_
 cases h : sEq s a with
 | true =>
  have e : zB7 a b s = b:=by unfold zB7; rw [if_pos h]
  simp [Tryz.ntmps19,h,e]
 | false =>
  have e : zB7 a b s = s:=by unfold zB7; rw [if_neg (by rw [h]; simp)]
  simp [Tryz.ntmps19,h,e]
abbrev exW (e : Ex) (n : ByteArray) (l : AV) : List AV:=[U e.op,I e.int,Sg e.name,Sg e.second,Sg n,.p (strs e.place.path),l,I e.pos]
theorem zM1 (a b : ByteArray) : ∀ (e : Ex),ExSm e -> ∀ (S : ASt),ADet Tryz.prog 23 [exV e,Sg a,Sg b] S (exV (e.ren (zB7 a b))) S:=by
 refine Ex.ind fun e ih hsm S=>?_
 obtain ⟨_,_,_,hpl,hsz,hsm⟩:=hsm
 have hlen : e.args.length <= maxLen:=by unfold maxLen; omega
 have hren:=zJH (zB7 a b) e
 have hrow : ∀ q,(h : q < e.args.length) -> ((e.args.map (Ex.ren (zB7 a b))).map Ex.enc).take (q + 1) = ((e.args.map (Ex.ren (zB7 a b))).map Ex.enc).take q ++ [((e.args[q]).ren (zB7 a b)).enc]:=fun q h=>by
  have:=zEB Ex.enc (e.args.map (Ex.ren (zB7 a b))) (q:=q) (by simpa using h)
  rw [<- this]; simp
 rw [hren]
 obtain ⟨zs,hz⟩ : ∃ zs,zs = e.args.map (Ex.ren (zB7 a b)):=⟨_,rfl⟩
 have hzl : zs.length = e.args.length:=by rw [hz,List.length_map]
 rw [<- hz] at hrow ⊢
 show ADet _ _ _ S (.agg [U e.op,I e.int,Sg e.name,Sg e.second,Sg (zB7 a b e.place.name),.p (strs e.place.path),.p (.sl 8 (zs.map Ex.enc)),I e.pos]) S
 refine ADet.intro mixed Tryz.call23 Tryz.func23 rfl ?_
 cases hn : sEq e.place.name a with
 | true =>
  have e1 : zB7 a b e.place.name = b:=by unfold zB7; rw [if_pos hn]
  simp [Tryz.ntmps23,hn];refine zAR 40 8 (by decide) [.cells (exW e b (.p (.sl 8 (e.args.map Ex.enc)))) 40,.cells [.any,.any,.any,.any,.any,.any,.any,.any] 40] (fun q : Nat=>q <= e.args.length) (fun q=>([.any,Sg a,Sg b,.ptr 0 0 0,.any,.any,.ptr 0 1 0,.osl 8 ((zs.map Ex.enc).take q) 0 2,I q] ++ List.replicate 29 .any)) (fun q=>[.cells (exW e b (.p (.sl 8 (e.args.map Ex.enc)))) 40,.cells [.any,.any,.any,.any,.any,.any,.any,.any] 40,.tok 40 8 q] :: S) (fun q=>e.args.length - q) 0 (Nat.zero_le _) ?_ ?_ ?_ ?_
  .simp
  .simp
  .rfl
  intro q hq
  by_cases hlt : q < e.args.length
  .have iC:=fun S=>ih _ (List.getElem_mem hlt) (hsm _ (List.getElem_mem hlt)) S
   have hr:=hrow q hlt
   have hlt' : (q : Int) < (e.args.length : Int):=by omega
   have hw:=zD hlt hlen
   have hle : q + 1 <= 4294967296:=by omega
   have hmin : min q zs.length = q:=by omega
   generalize hx : e.args[q] = x at *
   generalize x.ren (zB7 a b) = z at *
   simp [hlt,hlt',hx,zv];refine ⟨_,_,iC _,?_⟩;simp [hle,hmin];exact ⟨q + 1,hlt,by omega,⟨by rw [hr,zv],hw⟩,rfl⟩
  .have hlt' : ¬ (q : Int) < (e.args.length : Int):=by omega
   have hall : (zs.map Ex.enc).take q = zs.map Ex.enc:=List.take_of_length_le (by simp [hzl]; omega)
   simp [hlt,hlt',hall,e1]
 | false =>
  have e1 : zB7 a b e.place.name = e.place.name:=by unfold zB7; rw [if_neg (by rw [hn]; simp)]
  simp [Tryz.ntmps23,hn];refine zAR 40 8 (by decide) [.cells (exW e e.place.name (.p (.sl 8 (e.args.map Ex.enc)))) 40,.cells [.any,.any,.any,.any,.any,.any,.any,.any] 40] (fun q : Nat=>q <= e.args.length) (fun q=>([.any,Sg a,Sg b,.ptr 0 0 0,.any,.any,.ptr 0 1 0,.osl 8 ((zs.map Ex.enc).take q) 0 2,I q] ++ List.replicate 29 .any)) (fun q=>[.cells (exW e e.place.name (.p (.sl 8 (e.args.map Ex.enc)))) 40,.cells [.any,.any,.any,.any,.any,.any,.any,.any] 40,.tok 40 8 q] :: S) (fun q=>e.args.length - q) 0 (Nat.zero_le _) ?_ ?_ ?_ ?_
  .simp
  .simp
  .rfl
  intro q hq
  by_cases hlt : q < e.args.length
  .have iC:=fun S=>ih _ (List.getElem_mem hlt) (hsm _ (List.getElem_mem hlt)) S
   have hr:=hrow q hlt
   have hlt' : (q : Int) < (e.args.length : Int):=by omega
   have hw:=zD hlt hlen
   have hle : q + 1 <= 4294967296:=by omega
   have hmin : min q zs.length = q:=by omega
   generalize hx : e.args[q] = x at *
   generalize x.ren (zB7 a b) = z at *
   simp [hlt,hlt',hx,zv];refine ⟨_,_,iC _,?_⟩;simp [hle,hmin];exact ⟨q + 1,hlt,by omega,⟨by rw [hr,zv],hw⟩,rfl⟩
  .have hlt' : ¬ (q : Int) < (e.args.length : Int):=by omega
   have hall : (zs.map Ex.enc).take q = zs.map Ex.enc:=List.take_of_length_le (by simp [hzl]; omega)
   simp [hlt,hlt',hall,e1]
end Go.Proofs.YtlclonljdagpkaaGreatDoor
namespace Go.Proofs.YtlclonljdagpkaaGreatDoor
open Go.RowKit
attribute [local simp] List.replicate List.range List.range.loop resA zR retA AV.cuts AV.cut AObj.cut trim wkR wkT wkL wkN wkNR wkNL wkM wkMR wkML zAi zAZ zY zAj zAb zQ rowA zf zT List.forall_mem_cons List.contains_cons List.contains_nil List.find? ze zd zS LCp LCl refL
abbrev stX (s : St) (nm sc : ByteArray) (n x a : AV) (pn : ByteArray) (b e : List St) : List AV:=[U s.op,Sg nm,Sg sc,n,U s.type.kind,Sg s.type.name,.p (.sl 3 (s.type.args.map Ty.enc)),I s.int,Sg pn,.p (strs s.place.path),x,.p (.sl 15 (b.map St.enc)),.p (.sl 15 (e.map St.enc)),a,I s.pos]
def CR (a b : ByteArray) (l : List St) : Prop:=∀ S : ASt,ADet Tryz.prog 22 [.p (.sl 15 (l.map St.enc)),Sg a,Sg b] S (.p (.sl 15 ((l.map (St.ren (zB7 a b))).map St.enc))) S
theorem zLo (op : Int) (nm sc : ByteArray) (ns : List ByteArray) (ty : Ty) (int : Int) (pl : Pl) (es : List Ex) (b el : List St) (ar : List Ar) (pos : Int) : (St.mk op nm sc ns ty int pl es b el ar pos).enc = [pU op,pS nm,pS sc,strs ns,pU ty.kind,pS ty.name,.sl 3 (ty.args.map Ty.enc),pI int,pS pl.name,strs pl.path,.sl 8 (es.map Ex.enc),.sl 15 (b.map St.enc),.sl 15 (el.map St.enc),.sl 3 (ar.map Ar.enc),pI pos]:=by rw [zAz]; rfl
theorem zM2 {α : Type} (g : α -> α) (enc : α -> List PV) (l : List α) {q : Nat} (h : q < l.length) : ((l.map g).map enc).take (q + 1) = ((l.map g).map enc).take q ++ [enc (g l[q])]:=by
 have:=zEB enc (l.map g) (q:=q) (by simpa using h)
 rw [<- this]; simp
theorem zM3 {α : Type} (g : α -> α) (enc : α -> List PV) (l : List α) {q : Nat} (h : ¬ q < l.length) : ((l.map g).map enc).take q = (l.map g).map enc:=List.take_of_length_le (by simp; omega)
theorem zRP {α : Type} (g : α -> α) (l : List α) {q : Nat} (h : q < l.length) : min q (l.map g).length = q:=by simp; omega
theorem zTt (a b : ByteArray) (l : List St) (hl : l.length <= 20000) (h : ∀ s ∈ l,StSm s /\ CR a b s.body /\ CR a b s.els /\ ∀ r ∈ s.arms,CR a b r.body) : CR a b l:=fun S=>by
 have hlen : l.length <= maxLen:=by unfold maxLen; omega
 have hsw:=fun s S=>zWs s a b S
 have hre:=fun e he S=>zM1 a b e he S
 unfold CR at *
 generalize hf : zB7 a b = f at *
 have hsw : ∀ (s : ByteArray) (S : ASt),ADet Tryz.prog 19 [Sg s,Sg a,Sg b] S (Sg (f s)) S:=fun s S=>by rw [<- hf]; exact zWs s a b S
 have hrowL:=fun q h=>zM2 (St.ren f) St.enc l (q:=q) h
 have hallL:=fun q h=>zM3 (St.ren f) St.enc l (q:=q) h
 obtain ⟨zs,hz⟩ : ∃ zs,zs = l.map (St.ren f):=⟨_,rfl⟩
 have hzl : zs.length = l.length:=by rw [hz,List.length_map]
 rw [<- hz] at hrowL hallL ⊢;refine ADet.intro mixed Tryz.call22 Tryz.func22 rfl ?_;simp [Tryz.ntmps22];refine zAR 45 15 (by decide) [] (fun q : Nat=>q <= l.length) (fun q=>([.p (.sl 15 (l.map St.enc)),Sg a,Sg b,.any,.any,.any,.any,.osl 15 ((zs.map St.enc).take q) 0 0,I q] ++ List.replicate 155 .any)) (fun q=>[.tok 45 15 q] :: S) (fun q=>l.length - q) 0 (Nat.zero_le _) ?_ ?_ ?_ ?_
 .simp
 .simp
 .rfl
 intro q hq
 by_cases hlt : q < l.length
 .have hlt' : (q : Int) < (l.length : Int):=by omega
  have hwq:=zD hlt hlen
  have hq1 : q + 1 <= 4294967296:=by omega
  have hminq : min q zs.length = q:=by omega
  have hmu : l.length - (q + 1) < l.length - q:=by omega
  obtain ⟨hsm,hb,he,har⟩:=h _ (List.getElem_mem hlt)
  have hrow:=hrowL q hlt
  clear hrowL hallL
  generalize hx : l[q] = s at *
  obtain ⟨_,_,_,hnm,_,_,hex,_,_,ha0,_,_,_,_⟩:=hsm
  have hnl0:=hnm.1
  have hex1:=hex.1
  have hnl : s.names.length <= maxLen:=by unfold maxLen; omega
  have hexl : s.exprs.length <= maxLen:=by unfold maxLen; omega
  have hal : s.arms.length <= maxLen:=by unfold maxLen; omega
  rw [zQ4] at hrow
  have pn : (s.place.ren f).name = f s.place.name:=rfl
  have pp : (s.place.ren f).path = s.place.path:=rfl
  have hnr:=fun k h=>zM2 f (fun s=>[pS s]) s.names (q:=k) h
  have hna:=fun k h=>zM3 f (fun s=>[pS s]) s.names (q:=k) h
  have hxr:=fun k h=>zM2 (Ex.ren f) Ex.enc s.exprs (q:=k) h
  have hxa:=fun k h=>zM3 (Ex.ren f) Ex.enc s.exprs (q:=k) h
  have har2:=fun k h=>zM2 (Ar.ren f) Ar.enc s.arms (q:=k) h
  have haa:=fun k h=>zM3 (Ar.ren f) Ar.enc s.arms (q:=k) h
  have hopp : s.op = 2 \/ s.op = 8 \/ (¬ s.op = 2 /\ ¬ s.op = 8):=by omega
  rcases hopp with hop | hop | ⟨hn2,hn8⟩
  have g1 : (s.op != 2) = false:=by rw [hop]; rfl
  have g2 : (s.op != 8) = true:=by rw [hop]; rfl
  rw [if_pos hop,if_neg (show ¬ s.op = 8 by omega),zLo,pn,pp] at hrow
  simp [hlt,hlt',hx,zAz,g1,g2];refine ⟨_,_,hsw _ _,?_⟩;simp [g1,g2];refine ⟨_,_,hsw _ _,?_⟩;simp
  generalize s.name = nm at hrow ⊢
  generalize f s.second = sc at hrow ⊢
  clear g1 g2
  rotate_left
  have g1 : (s.op != 2) = true:=by rw [hop]; rfl
  have g2 : (s.op != 8) = false:=by rw [hop]; rfl
  rw [if_neg (show ¬ s.op = 2 by omega),if_pos hop,zLo,pn,pp] at hrow
  simp [hlt,hlt',hx,zAz,g1,g2];refine ⟨_,_,hsw _ _,?_⟩;simp [g1,g2];refine ⟨_,_,hsw _ _,?_⟩;simp
  generalize f s.name = nm at hrow ⊢
  generalize s.second = sc at hrow ⊢
  clear g1 g2
  rotate_left
  have g1 : (s.op != 2) = true:=by simpa using hn2
  have g2 : (s.op != 8) = true:=by simpa using hn8
  rw [if_neg hn2,if_neg hn8,zLo,pn,pp] at hrow;simp [hlt,hlt',hx,zAz,g1,g2];refine ⟨_,_,hsw _ _,?_⟩;simp [g1,g2];refine ⟨_,_,hsw _ _,?_⟩;simp [g1,g2];refine ⟨_,_,hsw _ _,?_⟩;simp
  generalize f s.name = nm at hrow ⊢
  generalize f s.second = sc at hrow ⊢
  clear g1 g2
  rotate_left
  all_goals
   refine zAR 9 1 (by decide) [.tok 45 15 q,.cells (stX s nm sc (.osl 1 [] 0 2) (.p (.v (.slice none 0 0))) (.p (.v (.slice none 0 0))) (f s.place.name) s.body s.els) 45] (fun k : Nat=>k <= s.names.length) (fun k=>([.p (.sl 15 (l.map St.enc)),Sg a,Sg b,.any,.any,.any,.any,.osl 15 ((zs.map St.enc).take q) 0 0,I q,.ptr 0 1 0,I k] ++ List.replicate 153 .any)) (fun k=>[.tok 45 15 q,.cells (stX s nm sc (.osl 1 (((s.names.map f).map fun s=>[pS s]).take k) 0 2) (.p (.v (.slice none 0 0))) (.p (.v (.slice none 0 0))) (f s.place.name) s.body s.els) 45,.tok 9 1 k] :: S) (fun k=>s.names.length - k) 0 (Nat.zero_le _) ?_ ?_ ?_ ?_
   .simp
   .simp
   .rfl
   intro k hk
   by_cases hlk : k < s.names.length
   .have hlk' : (k : Int) < (s.names.length : Int):=by omega
    have hw3:=zD hlk hnl
    have hmu3 : s.names.length - (k + 1) < s.names.length - k:=by omega
    have hk1 : k + 1 <= 4294967296:=by omega
    have hmin:=zRP f s.names hlk
    rw [List.length_map] at hmin
    have hr:=hnr k hlk
    generalize hy : s.names[k] = y at *
    simp [hlt,hlt',hx,zAz,hlk,hlk',hy,strs];refine zA [(1,12),(1,13)] (by kernel_rfl) (by kernel_rfl) ?_
    simp [hlt,hlt',hx,zAz,hlk,hlk',hy,strs];refine ⟨_,_,hsw _ _,?_⟩;simp [hk1,hmin];exact ⟨k + 1,hlk,hmu3,hw3,by rw [<- List.map_map,hr],rfl⟩
   have hlk' : ¬ (k : Int) < (s.names.length : Int):=by omega
   have hnAll:=hna k hlk
   simp [hlt,hlt',hx,zAz,hlk,hlk',strs,hnAll];clear hnAll;refine zAR 40 8 (by decide) [.tok 45 15 q,.cells (stX s nm sc (.osl 1 ((s.names.map f).map fun s=>[pS s]) 0 2) (.osl 8 [] 0 3) (.p (.v (.slice none 0 0))) (f s.place.name) s.body s.els) 45,.tok 9 1 s.names.length] (fun k : Nat=>k <= s.exprs.length) (fun k=>([.p (.sl 15 (l.map St.enc)),Sg a,Sg b,.any,.any,.any,.any,.osl 15 ((zs.map St.enc).take q) 0 0,I q,.ptr 0 1 0,.any,I k] ++ List.replicate 152 .any)) (fun k=>[.tok 45 15 q,.cells (stX s nm sc (.osl 1 ((s.names.map f).map fun s=>[pS s]) 0 2) (.osl 8 (((s.exprs.map (Ex.ren f)).map Ex.enc).take k) 0 3) (.p (.v (.slice none 0 0))) (f s.place.name) s.body s.els) 45,.tok 9 1 s.names.length,.tok 40 8 k] :: S) (fun k=>s.exprs.length - k) 0 (Nat.zero_le _) ?_ ?_ ?_ ?_
   .simp
   .simp
    exact ⟨by rw [<- List.map_map]; exact hna k hlk,by omega⟩
   .rfl
   clear hk hlk hlk';intro k hk
   by_cases hlk : k < s.exprs.length
   .have hlk' : (k : Int) < (s.exprs.length : Int):=by omega
    have hw3:=zD hlk hexl
    have hmu3 : s.exprs.length - (k + 1) < s.exprs.length - k:=by omega
    have hk1 : k + 1 <= 4294967296:=by omega
    have hmin:=zRP (Ex.ren f) s.exprs hlk
    rw [List.length_map] at hmin
    have hr:=hxr k hlk
    have iC:=fun S=>hre _ (hex.2 _ (List.getElem_mem hlk)) S
    generalize hy : s.exprs[k] = y at *
    generalize y.ren f = z at *
    simp [hlt,hlt',hx,zAz,hlk,hlk',hy];refine zA [(1,12),(1,13)] (by kernel_rfl) (by kernel_rfl) ?_
    simp [hlt,hlt',hx,zAz,hlk,hlk',hy,zv];refine ⟨_,_,iC _,?_⟩;simp [hk1,hmin];exact ⟨k + 1,hlk,hmu3,hw3,by rw [<- List.map_map,hr,zv],rfl⟩
   have hlk' : ¬ (k : Int) < (s.exprs.length : Int):=by omega
   have hxAll:=hxa k hlk
   simp [hlt,hlt',hx,zAz,hlk,hlk',hxAll];clear hxAll;refine zAR 111 3 (by decide) [.tok 45 15 q,.cells (stX s nm sc (.osl 1 ((s.names.map f).map fun s=>[pS s]) 0 2) (.osl 8 ((s.exprs.map (Ex.ren f)).map Ex.enc) 0 3) (.osl 3 [] 0 4) (f s.place.name) s.body s.els) 45,.tok 9 1 s.names.length,.tok 40 8 k] (fun k : Nat=>k <= s.arms.length) (fun k=>([.p (.sl 15 (l.map St.enc)),Sg a,Sg b,.any,.any,.any,.any,.osl 15 ((zs.map St.enc).take q) 0 0,I q,.ptr 0 1 0,.any,.any,I k] ++ List.replicate 151 .any)) (fun j=>[.tok 45 15 q,.cells (stX s nm sc (.osl 1 ((s.names.map f).map fun s=>[pS s]) 0 2) (.osl 8 ((s.exprs.map (Ex.ren f)).map Ex.enc) 0 3) (.osl 3 (((s.arms.map (Ar.ren f)).map Ar.enc).take j) 0 4) (f s.place.name) s.body s.els) 45,.tok 9 1 s.names.length,.tok 40 8 k,.tok 111 3 j] :: S) (fun k=>s.arms.length - k) 0 (Nat.zero_le _) ?_ ?_ ?_ ?_
   .simp
   .simp
    rw [<- List.map_map]; exact hxa k hlk
   .rfl
   intro j hj
   by_cases hlj : j < s.arms.length
   .have hlj' : (j : Int) < (s.arms.length : Int):=by omega
    have hw3:=zD hlj hal
    have hmu3 : s.arms.length - (j + 1) < s.arms.length - j:=by omega
    have hj1 : j + 1 <= 4294967296:=by omega
    have hmin:=zRP (Ar.ren f) s.arms hlj
    rw [List.length_map] at hmin
    have hr:=har2 j hlj
    have aC:=har _ (List.getElem_mem hlj)
    generalize hy : s.arms[j] = y at *
    simp [hlt,hlt',hx,zAz,hlj,hlj',hy,Ar.enc];refine ⟨_,_,hsw _ _,?_⟩;simp;refine ⟨_,_,aC _,?_⟩;simp [hj1,hmin];exact ⟨j + 1,hlj,hmu3,hw3,by rw [<- List.map_map,hr]; simp [Ar.enc,Ar.ren],rfl⟩
   have hlj' : ¬ (j : Int) < (s.arms.length : Int):=by omega
   have haAll:=haa j hlj
   simp [hlt,hlt',hx,zAz,hlj,hlj',haAll];clear haAll;refine zA [(12,7)] (by kernel_rfl) (by kernel_rfl) ?_
   simp [hlt,hlt',hx,zAz];refine ⟨_,_,hb _,?_⟩;simp [hlt,hlt',hx,zAz];refine ⟨_,_,he _,?_⟩;simp [hq1,hminq];exact ⟨q + 1,hlt,hmu,⟨by rw [hrow]; simp [strs]; rw [<- List.map_map]; exact haa j hlj,hwq⟩,rfl⟩
 .have hlt' : ¬ (q : Int) < (l.length : Int):=by omega
  have hall:=hallL q hlt
  simp [hlt,hlt',hall]
theorem zZ2 (a b : ByteArray) : ∀ s : St,StSm s -> CR a b s.body /\ CR a b s.els /\ ∀ r ∈ s.arms,CR a b r.body:=by
 refine St.ind fun s i1 i2 i3 h=>?_
 obtain ⟨_,_,_,_,_,_,_,hb,hl,_,k1,k2,k3,k4⟩:=h
 exact ⟨zTt a b s.body hb fun x hx=>⟨k1 x hx,i1 x hx (k1 x hx)⟩,zTt a b s.els hl fun x hx=>⟨k2 x hx,i2 x hx (k2 x hx)⟩,fun r hr=>zTt a b r.body (k3 r hr).2.2 fun x hx=>⟨k4 r hr x hx,i3 r hr x hx (k4 r hr x hx)⟩⟩
theorem zWt (a b : ByteArray) (l : List St) (h : zSl l) : CR a b l:=zTt a b l h.1 fun s hs=>⟨h.2 s hs,zZ2 a b s (h.2 s hs)⟩
end Go.Proofs.YtlclonljdagpkaaGreatDoor
namespace Go.Proofs.YtlclonljdagpkaaGreatDoor
open Go.RowKit
section
variable {f : ByteArray -> ByteArray}
theorem zKh : ∀ e : Ex,(e.ren f).nd = e.nd:=by
 refine Ex.ind fun e ih=>?_
 rw [zJH,exNd,exNd e]
 show 1 + ((e.args.map (Ex.ren f)).map Ex.nd).sum = _
 rw [List.map_map,List.map_congr_left (f:=Ex.nd ∘ Ex.ren f) (g:=Ex.nd) fun x hx=>ih x hx]
theorem zRQ : ∀ s : St,(s.ren f).nd = s.nd:=by
 refine St.ind fun s i1 i2 i3=>?_
 rw [zQ4,stNd,stNd s]
 show 3 + ((s.names.map f).length + (s.type.nd + (((s.exprs.map (Ex.ren f)).map Ex.nd).sum + (((s.body.map (St.ren f)).map St.nd).sum + (((s.els.map (St.ren f)).map St.nd).sum + ((s.arms.map (Ar.ren f)).map Ar.nd).sum))))) = _
 rw [List.length_map,List.map_map,List.map_map,List.map_map,List.map_map,List.map_congr_left (f:=Ex.nd ∘ Ex.ren f) (g:=Ex.nd) fun x hx=>zKh x,List.map_congr_left (f:=St.nd ∘ St.ren f) (g:=St.nd) (l:=s.body) fun x hx=>i1 x hx,List.map_congr_left (f:=St.nd ∘ St.ren f) (g:=St.nd) (l:=s.els) fun x hx=>i2 x hx,List.map_congr_left (f:=Ar.nd ∘ Ar.ren f) (g:=Ar.nd) fun a ha=>?_]
 show (a.ren f).nd = a.nd
 rw [arNd,arNd a]
 show 1 + ((a.body.map (St.ren f)).map St.nd).sum = _
 rw [List.map_map,List.map_congr_left (f:=St.nd ∘ St.ren f) (g:=St.nd) fun x hx=>i3 a ha x hx]
theorem zRR (x : It) : (x.ren f).nd = x.nd:=by
 show 3 + (((x.fields.map (Fi.ren f)).map Fi.nd).sum + (x.result.nd + (((x.body.map (St.ren f)).map St.nd).sum + (x.ret.ren f).nd))) = 3 + ((x.fields.map Fi.nd).sum + (x.result.nd + ((x.body.map St.nd).sum + x.ret.nd)))
 rw [zKh,List.map_map,List.map_map,List.map_congr_left (f:=St.nd ∘ St.ren f) (g:=St.nd) fun s hs=>zRQ s]
 rfl
variable (hs : ∀ s : ByteArray,s.size <= 20000 -> (f s).size <= 20000)
include hs
theorem zKi {x : Pl} (h : PlSm x) : PlSm (x.ren f):=⟨hs _ h.1,h.2⟩
theorem zKj : ∀ e : Ex,ExSm e -> ExSm (e.ren f):=by
 refine Ex.ind fun e ih h=>?_
 obtain ⟨_,h1,h2,h3,h4,h5⟩:=h
 rw [zJH];refine .mk _ h1 h2 (zKi hs h3) (by show (e.args.map _).length <= _; rw [List.length_map]; exact h4) fun y hy=>?_
 obtain ⟨x,hx,rfl⟩:=List.mem_map.1 (show y ∈ e.args.map (Ex.ren f) from hy)
 exact ih x hx (h5 x hx)
theorem zRS {l : List ByteArray} (h : NmSm l) : NmSm (l.map f):=⟨by rw [List.length_map]; exact h.1,fun y hy=>by
 obtain ⟨x,hx,rfl⟩:=List.mem_map.1 hy
 exact hs _ (h.2 x hx)⟩
theorem zRT : ∀ s : St,StSm s -> StSm (s.ren f):=by
 refine St.ind fun s i1 i2 i3 h=>?_
 obtain ⟨_,h1,h2,h3,h4,h5,h6,h7,h8,h9,b1,b2,b3,b4⟩:=h
 rw [zQ4];refine .mk _ ?_ ?_ (zRS hs h3) h4 (zKi hs h5) ⟨by show (s.exprs.map _).length <= _; rw [List.length_map]; exact h6.1,fun y hy=>?_⟩ (by show (s.body.map _).length <= _; rw [List.length_map]; exact h7) (by show (s.els.map _).length <= _; rw [List.length_map]; exact h8) (by show (s.arms.map _).length <= _; rw [List.length_map]; exact h9) (fun y hy=>?_) (fun y hy=>?_) (fun y hy=>?_) (fun y hy z hz=>?_)
 .show (if s.op = 2 then s.name else f s.name).size <= 20000
  split
  .exact h1
  .exact hs _ h1
 .show (if s.op = 8 then s.second else f s.second).size <= 20000
  split
  .exact h2
  .exact hs _ h2
 .obtain ⟨x,hx,rfl⟩:=List.mem_map.1 (show y ∈ s.exprs.map (Ex.ren f) from hy)
  exact zKj hs x (h6.2 x hx)
 .obtain ⟨x,hx,rfl⟩:=List.mem_map.1 (show y ∈ s.body.map (St.ren f) from hy)
  exact i1 x hx (b1 x hx)
 .obtain ⟨x,hx,rfl⟩:=List.mem_map.1 (show y ∈ s.els.map (St.ren f) from hy)
  exact i2 x hx (b2 x hx)
 .obtain ⟨x,hx,rfl⟩:=List.mem_map.1 (show y ∈ s.arms.map (Ar.ren f) from hy)
  obtain ⟨k1,k2,k3⟩:=b3 x hx
  exact ⟨k1,hs _ k2,by show (x.body.map _).length <= _; rw [List.length_map]; exact k3⟩
 .obtain ⟨x,hx,rfl⟩:=List.mem_map.1 (show y ∈ s.arms.map (Ar.ren f) from hy)
  obtain ⟨w,hw,rfl⟩:=List.mem_map.1 (show z ∈ x.body.map (St.ren f) from hz)
  exact i3 x hx w hw (b4 x hx w hw)
theorem zRU {x : It} (h : ItSm x) : ItSm (x.ren f):=by
 obtain ⟨h1,h2,h3,h4,h5⟩:=h
 refine ⟨h1,⟨by show (x.fields.map _).length <= _; rw [List.length_map]; exact h2.1,fun y hy=>?_⟩,h3,⟨by show (x.body.map _).length <= _; rw [List.length_map]; exact h4.1,fun y hy=>?_⟩,zKj hs _ h5⟩
 .obtain ⟨g,hg,rfl⟩:=List.mem_map.1 (show y ∈ x.fields.map (Fi.ren f) from hy)
  exact ⟨hs _ (h2.2 g hg).1,(h2.2 g hg).2⟩
 .obtain ⟨s,hss,rfl⟩:=List.mem_map.1 (show y ∈ x.body.map (St.ren f) from hy)
  exact zRT hs s (h4.2 s hss)
end
end Go.Proofs.YtlclonljdagpkaaGreatDoor
namespace Go.Proofs.YtlclonljdagpkaaGreatDoor
open Go.RowKit
attribute [local simp] List.replicate List.range List.range.loop resA zR retA AV.cuts AV.cut AObj.cut trim wkR wkT wkL wkN wkNR wkNL wkM wkMR wkML zAi zAZ zY zAj zAb zQ rowA zf zT List.forall_mem_cons List.contains_cons List.contains_nil List.find? ze zd zS LCp LCl refL
def zHg (f : ByteArray -> ByteArray) (l : List Fi) (k : Nat) : List Fi:=(l.take k).map (Fi.ren f) ++ l.drop k
theorem zOa (f : ByteArray -> ByteArray) (l : List Fi) : zHg f l 0 = l:=by simp [zHg]
theorem zRV (f : ByteArray -> ByteArray) (l : List Fi) {k : Nat} (h : l.length <= k) : zHg f l k = l.map (Fi.ren f):=by
 unfold zHg;rw [List.take_of_length_le h,List.drop_of_length_le h,List.append_nil]
theorem zRW (f : ByteArray -> ByteArray) (l : List Fi) {k : Nat} (h : k < l.length) : (zHg f l k)[k]? = some l[k]:=by
 unfold zHg;rw [List.getElem?_append_right (by simp; omega),List.length_map,List.length_take,Nat.min_eq_left (by omega),Nat.sub_self,List.getElem?_drop,Nat.add_zero,List.getElem?_eq_getElem h]
theorem zOb (f : ByteArray -> ByteArray) (l : List Fi) {k : Nat} (h : k < l.length) : zHg f l (k + 1) = (zHg f l k).set k (Fi.ren f l[k]):=by
 unfold zHg
 have hd : l.drop k = l[k] :: l.drop (k + 1):=List.drop_eq_getElem_cons h
 rw [List.take_succ_eq_append_getElem h,List.map_append,List.set_append_right _ _ (by simp; omega)]
 have : k - ((l.take k).map (Fi.ren f)).length = 0:=by simp; omega
 rw [this,hd,List.set_cons_zero];simp
theorem zRX : ∀ (l : List Fi) (k : Nat) (y : Fi),l[k]? = some y -> (rowC Fi.enc l)[k * 4]? = some (Sg y.name)
 | x :: l,0,y,h=>by simp at h; subst h; rfl
 | x :: l,k + 1,y,h=>by
  have:=zRX l k y (by simpa using h)
  have e : rowC Fi.enc (x :: l) = .p (pS x.name) :: .p (pU x.type.kind) :: .p (pS x.type.name) :: .p (.sl 3 (x.type.args.map Ty.enc)) :: rowC Fi.enc l:=rfl
  rw [e,show (k + 1) * 4 = k * 4 + 1 + 1 + 1 + 1 by omega]
  exact this
theorem zIR : ∀ (l : List Fi) (k : Nat) (y : Fi) (n : ByteArray),l[k]? = some y -> rowC Fi.enc (l.set k ⟨n,y.type⟩) = (rowC Fi.enc l).set (k * 4) (Sg n)
 | x :: l,0,y,n,h=>by simp at h; subst h; rfl
 | x :: l,k + 1,y,n,h=>by
  have:=zIR l k y n (by simpa using h)
  have e : ∀ x l,rowC Fi.enc (x :: l) = .p (pS x.name) :: .p (pU x.type.kind) :: .p (pS x.type.name) :: .p (.sl 3 (x.type.args.map Ty.enc)) :: rowC Fi.enc l:=fun _ _=>rfl
  rw [List.set_cons_succ,e,e,this,show (k + 1) * 4 = k * 4 + 1 + 1 + 1 + 1 by omega]
  rfl
theorem zM4 : ∀ l : List Fi,(rowC Fi.enc l).length = l.length * 4
 | []=>rfl
 | x :: l=>by
  have:=zM4 l
  have e : ∀ x l,rowC Fi.enc (x :: l) = .p (pS x.name) :: .p (pU x.type.kind) :: .p (pS x.type.name) :: .p (.sl 3 (x.type.args.map Ty.enc)) :: rowC Fi.enc l:=fun _ _=>rfl
  rw [e]; simp [this]; omega
structure OthS (p : List It) (i : Nat) (x : It) (rc : List AV) (fs : List Fi) (A : List AObj) : Prop where
 len : A.length = 15 + 5 * p.length
 keep : ∀ o ∈ A,∀ N,15 + 5 * p.length <= N -> wkL [o.cut N] [o]
 c0 : A[0]? = some (.cells [.p (prog p)] 24)
 cq : A[12 + 5 * p.length + 1]? = some (.cells [.rsl 0 12 p.length 16] 24)
 cx : A[12 + 5 * p.length + 1 + 1]? = some (.cells (itRF x (12 + 5 * i + 4)) 42)
 row : A[12]? = some (.row 42 16 p.length rc)
 fl : fs.length = x.fields.length
 fi : A[12 + 5 * i + 4]? = some (.row 55 4 x.fields.length (rowC Fi.enc fs))
 ff : ∀ j (h : j < p.length),j ≠ i -> A[12 + 5 * j + 4]? = some (.row 55 4 p[j].fields.length (rowC Fi.enc p[j].fields))
theorem OthS.set {p : List It} {i : Nat} {x : It} {rc : List AV} {fs : List Fi} {A : List AObj} (h : OthS p i x rc fs A) (hi : i < p.length) (l : List Fi) (hl : l.length = x.fields.length) : OthS p i x rc l (A.set (12 + 5 * i + 4) (.row 55 4 x.fields.length (rowC Fi.enc l))):=by
 have hlen:=h.len
 refine ⟨by rw [List.length_set,hlen],fun o ho N hN=>?_,?_,?_,?_,?_,hl,?_,fun j hj hji=>?_⟩
 .rcases List.mem_or_eq_of_mem_set ho with h1 | rfl
  .exact h.keep o h1 N hN
  .show wkL [AObj.row _ _ _ (AV.cuts N (rowC Fi.enc l))] _
   rw [zD6]; exact ⟨⟨⟨rfl,rfl,rfl⟩,zL _⟩,trivial⟩
 .rw [List.getElem?_set_ne (by omega)]; exact h.c0
 .rw [List.getElem?_set_ne (by omega)]; exact h.cq
 .rw [List.getElem?_set_ne (by omega)]; exact h.cx
 .rw [List.getElem?_set_ne (by omega)]; exact h.row
 .rw [List.getElem?_set_self (by omega)]
 .rw [List.getElem?_set_ne (by omega)]; exact h.ff j hj hji
theorem OthS.init (p : List It) (i : Nat) (hi : i < p.length) (x : It) (hx : p[i] = x) : OthS p i x (zA9 12 p) x.fields (.cells [.p (prog p)] 24 :: ((List.replicate 11 .dead ++ prP 12 p) ++ [.cells [.rsl 0 12 p.length 16] 24,.cells (itRF x (12 + 5 * i + 4)) 42])):=by
 have hD:=zUX 1 p
 rw [show 1 + 11 = 12 from rfl] at hD
 have hl : (List.replicate 11 AObj.dead ++ prP 12 p).length = 12 + 5 * p.length:=by have:=hD.len; rw [show 12 - 1 + 1 + 5 * p.length = 12 + 5 * p.length by omega] at this; exact this
 have hg : ∀ j (h : j < p.length),p.getD j zItF = p[j]:=fun j h=>by simp [List.getD,h]
 generalize List.replicate 11 AObj.dead ++ prP 12 p = D at *
 refine ⟨by simp only [List.length_cons,List.length_append,hl,List.length_nil]; omega,fun o ho N hN=>?_,rfl,?_,?_,?_,rfl,?_,fun j hj _=>?_⟩
 .simp only [List.mem_cons,List.mem_append,List.not_mem_nil,or_false] at ho
  rcases ho with rfl | ho | rfl | rfl
  .exact ⟨⟨rfl,zL _⟩,trivial⟩
  .exact hD.keep o ho N (by omega)
  .have e : AV.cuts N [.rsl 0 12 p.length 16] = [.rsl 0 12 p.length 16]:=by simp [AV.cuts,AV.cut]; omega
   show wkL [AObj.cells (AV.cuts N _) _] _
   rw [e]; exact ⟨⟨rfl,zL _⟩,trivial⟩
  .show wkL [AObj.cells (AV.cuts N _) _] _
   rw [zJM (by omega)]; exact ⟨⟨rfl,zL _⟩,trivial⟩
 .rw [List.getElem?_cons_succ,List.getElem?_append_right (by omega),hl,Nat.sub_self]; rfl
 .rw [List.getElem?_cons_succ,List.getElem?_append_right (by omega),hl,show 12 + 5 * p.length + 1 - (12 + 5 * p.length) = 1 by omega]; rfl
 .rw [show (12 : Nat) = 11 + 1 from rfl,List.getElem?_cons_succ,List.getElem?_append_left (by omega)]; exact hD.rw
 .have:=hD.fi i hi
  rw [show 12 - 1 + (5 * i + 4) = 11 + 5 * i + 4 by omega,hg i hi,hx] at this
  rw [show 12 + 5 * i + 4 = (11 + 5 * i + 4) + 1 by omega,List.getElem?_cons_succ,List.getElem?_append_left (by omega)]; exact this
 .have:=hD.fi j hj
  rw [show 12 - 1 + (5 * j + 4) = 11 + 5 * j + 4 by omega,hg j hj] at this
  rw [show 12 + 5 * j + 4 = (11 + 5 * j + 4) + 1 by omega,List.getElem?_cons_succ,List.getElem?_append_left (by omega)]; exact this
theorem zY5 (p : List It) (hg : great p = false) (hw : z6 p = true) (i : Nat) (hi : i < p.length) (x : It) (hx : p[i] = x) (h3 : x.kind = 3) (a : ByteArray) (S : ASt) :
  ADet Tryz.prog 5 [.agg [.p (prog p)],I i,Sg a] S (B true) S:=by
 have hsm:=zNR hg
 have gC:=fun S=>zMJ S p
 have wC:=fun S=>zCm p hsm S
 rw [hg] at gC;rw [hw] at wC
 have hlp : p.length <= 20000:=hsm.1
 have hi' : (i : Int) < (p.length : Int):=by omega
 have hi2 : ¬ (p.length : Int) <= (i : Int):=by omega
 have hi3 : ¬ (i : Int) < 0:=by omega
 have hxs : ItSm x:=hx ▸ hsm.2 _ (List.getElem_mem hi)
 obtain ⟨_,hfs,hty,hst,hex⟩:=hxs
 have hxi : p[i]? = some x:=by rw [List.getElem?_eq_getElem hi,hx]
 have hfl : x.fields.length <= maxLen:=by have:=hfs.1; unfold maxLen; omega
 have hhas:=hasC zM x.body hst
 have huse:=zWp zM x.ret hex
 have hswp:=fun s S=>zWs s a zM S
 have hstm:=zWt a zM x.body hst
 have hren:=zM1 a zM x.ret hex
 have cC:=fun R=>zY7 p hsm [.cells [.p (prog p)] 24] R
 have hpart:=zCx 12 p i hi
 have hrl:=zHX 12 p
 rw [hx] at hpart
 have hA0:=OthS.init p i hi x hx
 have hDl : (List.replicate 11 AObj.dead ++ prP 12 p).length = 12 + 5 * p.length:=by rw [List.length_append,zLs,List.length_replicate]; omega
 have hD11 : (List.replicate 11 AObj.dead ++ prP 12 p)[11]? = some (.row 42 16 p.length (zA9 12 p)):=by rw [List.getElem?_append_right (by simp),List.length_replicate]; rfl
 unfold CH at hhas;unfold CR at hstm
 have hpl:=fun (ha : a ≠ emS) hh=>zRA hxi h3 hw (a:=a) ha hh
 have hok:=fun (ha : a ≠ emS)=>zJK ha
 have hsn:=zHT a
 have hwx:=fun (ha : a ≠ emS)=>zHR (zJK ha).em0 (zHT a) (zCv hw hxi) h3
 have hfe : zHS a = zB7 a zM:=rfl
 rw [hfe] at hpl hok hsn hwx
 generalize hf : zB7 a zM = f at hswp hstm hren hpl hok hsn hwx
 unfold zM at hswp hstm hren hhas huse
 generalize hrc : zA9 12 p = rc at *
 generalize List.replicate 11 AObj.dead ++ prP 12 p = D at *
 have hg11 : ∀ B,(D ++ B)[11]? = some (.row 42 16 p.length rc):=fun B=>by rw [List.getElem?_append_left (by omega)]; exact hD11
 have hgl : ∀ B,(D ++ B)[12 + 5 * p.length]? = B[0]?:=fun B=>by rw [List.getElem?_append_right (by omega),hDl,Nat.sub_self]
 have hgl1 : ∀ B,(D ++ B)[12 + 5 * p.length + 1]? = B[1]?:=fun B=>by rw [List.getElem?_append_right (by omega),hDl,Nat.add_sub_cancel_left]
 have hst1 : ∀ u v o : AObj,(D ++ [u,v]).set (12 + 5 * p.length + 1) o = D ++ [u,o]:=fun u v o=>by rw [List.set_append_right _ _ (by omega),hDl,Nat.add_sub_cancel_left]; rfl
 have hcl : i * 16 + 16 <= rc.length:=by omega
 simp only [List.length_singleton] at cC;rw [show 1 + 11 = 12 from rfl] at cC
 refine ADet.intro mixed Tryz.call5 Tryz.func5 rfl ?_;simp [Tryz.ntmps5];refine ⟨_,_,zBU _,?_⟩;simp;refine ⟨_,_,gC _,?_⟩;simp;refine ⟨_,_,wC _,?_⟩;simp [hi,hi',hi2,hi3,prog,hx,It.enc,h3];refine ⟨_,_,cC _,?_⟩;simp [hDl,hg11,hgl,hgl1,hst1,hi,hcl,hpart,itRF];simp only [itRF] at hA0
 generalize (AObj.cells [.p (prog p)] 24 :: (D ++ [AObj.cells [.rsl 0 12 p.length 16] 24,AObj.cells [U x.kind,Sg x.name,.rsl 0 (12 + 5 * i + 4) x.fields.length 4,U x.result.kind,Sg x.result.name,.p (.sl 3 (x.result.args.map Ty.enc)),.p (.sl 15 (x.body.map St.enc)),U x.ret.op,I x.ret.int,Sg x.ret.name,Sg x.ret.second,Sg x.ret.place.name,.p (strs x.ret.place.path),.p (.sl 8 (x.ret.args.map Ex.enc)),I x.ret.pos,I x.pos] 42]) : List AObj) = A0 at *
 clear hg11 hgl hgl1 hst1 hD11 hDl
 have hAk0:=fun o ho=>hA0.keep o ho (15 + 5 * p.length) (Nat.le_refl _)
 have hAl0:=hA0.len
 refine zE (fun y : Nat × List Fi × List AObj=>y.1 <= x.fields.length /\ OthS p i x rc y.2.1 y.2.2 /\ y.2.1 = zHg f x.fields y.1 /\ ∀ j (hj : j < x.fields.length),j < y.1 -> sEq x.fields[j].name zM = false) (fun y=>([.any,I i,Sg a,.ptr 0 0 0,.any,.any,B false,.ptr 0 (12 + 5 * p.length + 1) 0,.ptr 0 (12 + 5 * p.length + 1 + 1) 0,I y.1] ++ List.replicate 98 .any)) (fun y=>y.2.2 :: S) (fun y=>x.fields.length - y.1) (0,x.fields,A0) ⟨Nat.zero_le _,hA0,by rw [zOa],fun j hj h=>absurd h (by simp)⟩ ?_ ?_ ?_
 .simp
 .exact ⟨zCk hAk0,rfl⟩
 rintro ⟨k,fs,A⟩ ⟨hk,hA,hfs',hno⟩
 simp only at hk hA hfs' hno
 have hAl:=hA.len
 have h0:=hA.c0
 have hq:=hA.cq
 have hcx:=hA.cx
 have hrow:=hA.row
 have hfi:=hA.fi
 have hlf:=hA.fl
 simp only [itRF] at hcx
 by_cases hlt : k < x.fields.length
 .have hlt' : (k : Int) < (x.fields.length : Int):=by omega
  have hwk:=zD hlt hfl
  have hmu : x.fields.length - (k + 1) < x.fields.length - k:=by omega
  have hn2:=zDO (f:=fun y : Fi=>sEq y.name zM) hno hlt
  have hg:=zRW f x.fields hlt
  have hsu:=zOb f x.fields hlt
  rw [<- hfs'] at hg hsu
  have hcell:=zRX fs k _ hg
  have hset:=zIR fs k _ (f x.fields[k].name) hg
  have hcsl:=zM4 fs
  rw [hlf] at hcsl
  generalize hy : x.fields[k] = y at *
  generalize hcc : rowC Fi.enc fs = cs at *
  have hb1 : k * 4 + 1 <= cs.length:=by omega
  cases hc : sEq y.name zM with
  | true =>
   unfold zM at hc
   simp [hlt,hlt',hcx,hfi,hcell,hc]
  | false =>
   have hc':=hc
   unfold zM at hc';simp [hlt,hlt',hcx,hfi,hcell,hc',-trim,-wkT];refine zA [(1,10)] (by kernel_rfl) (by kernel_rfl) ?_
   simp [hlt,hlt',hcx,hfi,hcell,-trim,-wkT];refine ⟨_,_,hswp _ _,?_⟩;simp [hlt,hlt',hcx,hfi,hcell,hb1,-trim,-wkT]
   have hA2:=hA.set hi (fs.set k (Fi.ren f y)) (by rw [List.length_set,hlf])
   refine ⟨k + 1,fs.set k (Fi.ren f y),_,⟨hlt,hA2,hsu.symm,hn2 hc⟩,hmu,⟨fun h=>by rw [h,List.length_nil] at hAl0; omega,by omega,by omega,hwk⟩,zXs ?_ (by rw [List.length_set,hAl,hAl0]) fun o ho=>hA2.keep o ho _ (by omega)⟩
   rw [show Fi.ren f y = ⟨f y.name,y.type⟩ from rfl,hset]
 have hlt' : ¬ (k : Int) < (x.fields.length : Int):=by omega
 have hf0 : (x.fields.any fun y=>sEq y.name zM) = false:=zDN (f:=fun y : Fi=>sEq y.name zM) fun j hj _=>hno j hj (by omega)
 have hfsAll : fs = x.fields.map (Fi.ren f):=by rw [hfs',zRV f x.fields (by omega)]
 cases he : sEq a emS with
 | true=>simp [hlt,hlt',hcx,he]
 | false =>
 have ha:=sNe he
 simp [hlt,hlt',hcx,he];refine ⟨_,_,hhas _,?_⟩
 cases hb : x.body.any (St.has zM) with
 | true =>
  unfold zM at hb
  simp [hb]
 | false =>
 have hb2:=hb
 unfold zM at hb2;simp [hb2,hcx];refine ⟨_,_,huse _,?_⟩
 cases hu : x.ret.has zM with
 | true =>
  unfold zM at hu
  simp [hu]
 | false =>
 have hu2:=hu
 unfold zM at hu2
 have hh : x.has zM = false:=by unfold It.has; rw [hf0,hb,hu]; rfl
 have hck:=hpl ha hh
 have hwr:=hwx ha
 have hcl6 : i * 16 + 6 + 1 <= rc.length:=by omega
 have hcl7 : i * 16 + 7 + 8 <= rc.length:=by omega
 simp [hu2];refine zA [(1,6)] (by kernel_rfl) (by kernel_rfl) ?_
 simp [hq,hcx,hrow,hi];refine ⟨_,_,hstm _,?_⟩;simp [hq,hcx,hrow,hi,hcl6]
 have hAs : ∀ r,(A.set 12 r)[0]? = A[0]? /\ (A.set 12 r)[12 + 5 * p.length + 1]? = A[12 + 5 * p.length + 1]? /\ (A.set 12 r)[12 + 5 * p.length + 1 + 1]? = A[12 + 5 * p.length + 1 + 1]? /\ (A.set 12 r)[12]? = some r:=fun r=>⟨List.getElem?_set_ne (by omega),List.getElem?_set_ne (by omega),List.getElem?_set_ne (by omega),List.getElem?_set_self (by omega)⟩
 have s0:=fun r=>(hAs r).1
 have sq:=fun r=>(hAs r).2.1
 have sx:=fun r=>(hAs r).2.2.1
 have sr:=fun r=>(hAs r).2.2.2
 rw [hq] at sq;rw [hcx] at sx;rw [h0] at s0;refine zA [(1,6)] (by kernel_rfl) (by kernel_rfl) ?_
 simp [sq,sx,sr,hi];refine ⟨_,_,hren _,?_⟩;simp [sq,sx,sr,hi,hcl7];rw [<- List.map_map]
 obtain ⟨z,hz⟩ : ∃ z,z = x.ret.ren f:=⟨_,rfl⟩
 obtain ⟨bd,hbd⟩ : ∃ bd,bd = x.body.map (St.ren f):=⟨_,rfl⟩
 rw [<- hz,<- hbd]
 generalize hr3 : (((((((((rc.set (i * 16 + 6) (.p (.sl 15 (bd.map St.enc)))).set (i * 16 + 7) (U z.op)).set (i * 16 + 7 + 1) (I z.int)).set (i * 16 + 7 + 1 + 1) (Sg z.name)).set (i * 16 + 7 + 1 + 1 + 1) (Sg z.second)).set (i * 16 + 7 + 1 + 1 + 1 + 1) (Sg z.place.name)).set (i * 16 + 7 + 1 + 1 + 1 + 1 + 1) (.p (strs z.place.path))).set (i * 16 + 7 + 1 + 1 + 1 + 1 + 1 + 1) (.p (.sl 8 (z.args.map Ex.enc)))).set (i * 16 + 7 + 1 + 1 + 1 + 1 + 1 + 1 + 1) (I z.pos) : List AV) = rc3
 simp only [Nat.add_assoc,Nat.reduceAdd] at hr3
 have eR : itRF (x.ren f) (12 + 5 * i + 4) = [U x.kind,Sg x.name,.rsl 0 (12 + 5 * i + 4) x.fields.length 4,U x.result.kind,Sg x.result.name,.p (.sl 3 (x.result.args.map Ty.enc)),.p (.sl 15 (bd.map St.enc)),U z.op,I z.int,Sg z.name,Sg z.second,Sg z.place.name,.p (strs z.place.path),.p (.sl 8 (z.args.map Ex.enc)),I z.pos,I x.pos]:=by
  unfold itRF It.ren;rw [hz,hbd];simp only [List.length_map]
 have hp3 : (rc3.drop (i * 16)).take 16 = itRF (x.ren f) (12 + 5 * i + 4):=by
  rw [<- hr3,zx _ _ (by omega),zx _ _ (by omega),zx _ _ (by omega),zx _ _ (by omega),zx _ _ (by omega),zx _ _ (by omega),zx _ _ (by omega),zx _ _ (by omega),zx _ _ (by omega),hpart,eR]
  rfl
 have hpn3 : ∀ r (h : r < p.length),r ≠ i -> (rc3.drop (r * 16)).take 16 = itRF p[r] (12 + 5 * r + 4):=fun r h hr=>by
  rw [<- hr3,zw _ _ (by omega) hr,zw _ _ (by omega) hr,zw _ _ (by omega) hr,zw _ _ (by omega) hr,zw _ _ (by omega) hr,zw _ _ (by omega) hr,zw _ _ (by omega) hr,zw _ _ (by omega) hr,zw _ _ (by omega) hr,<- hrc]
  exact zCx 12 p r h
 clear hr3
 have hAff:=hA.ff
 have hAkk:=hA.keep
 have hBl : (A.set 12 (.row 42 16 p.length rc3)).length = 15 + 5 * p.length:=by rw [List.length_set,hAl]
 have hB13 : ∀ B,(A.set 12 (.row 42 16 p.length rc3) ++ B)[12]? = some (.row 42 16 p.length rc3):=fun B=>by rw [List.getElem?_append_left (by omega),List.getElem?_set_self (by omega)]
 have hBq : ∀ B,(A.set 12 (.row 42 16 p.length rc3) ++ B)[12 + 5 * p.length + 1]? = some (.cells [.rsl 0 12 p.length 16] 24):=fun B=>by rw [List.getElem?_append_left (by omega),sq]
 have hBf : ∀ B j (h : j < p.length),j ≠ i -> (A.set 12 (.row 42 16 p.length rc3) ++ B)[12 + 5 * j + 4]? = some (.row 55 4 p[j].fields.length (rowC Fi.enc p[j].fields)):=fun B j h hj=>by
  rw [List.getElem?_append_left (by omega),List.getElem?_set_ne (by omega),hAff j h hj]
 have hBfi : ∀ B,(A.set 12 (.row 42 16 p.length rc3) ++ B)[12 + 5 * i + 4]? = some (.row 55 4 x.fields.length (rowC Fi.enc fs)):=fun B=>by
  rw [List.getElem?_append_left (by omega),List.getElem?_set_ne (by omega),hfi]
 have hBk : wkL (A.set 12 (.row 42 16 p.length rc3)) (A.set 12 (.row 42 16 p.length rc3)):=zLk fun o ho=>by
  rcases List.mem_or_eq_of_mem_set ho with h | rfl
  .exact zIr (hAkk o h _ (Nat.le_refl _))
  .exact ⟨⟨⟨rfl,rfl,rfl⟩,zL _⟩,trivial⟩
 have hBq0:=sq (.row 42 16 p.length rc3)
 have hB00:=s0 (.row 42 16 p.length rc3)
 have hB0 : ∀ B,(A.set 12 (.row 42 16 p.length rc3) ++ B)[0]? = some (.cells [.p (prog p)] 24):=fun B=>by rw [List.getElem?_append_left (by omega)]; exact hB00
 have hBB : ∀ B k,(A.set 12 (.row 42 16 p.length rc3) ++ B)[15 + 5 * p.length + k]? = B[k]?:=fun B k=>by rw [List.getElem?_append_right (by omega),hBl,Nat.add_sub_cancel_left]
 generalize A.set 12 (.row 42 16 p.length rc3) = A3 at *
 have len2 : ∀ B : List AObj,LentL ((A3 ++ B) :: S) [.agg [.rsl 0 12 p.length 16]] [.agg [.p (.sl 16 ((p.map It.enc).set i (x.ren f).enc))]]:=fun B=>by
  refine zLj hi _ _ (hB13 B) hpn3 hp3 (hBf B) rfl ?_
  have l1 : Lent ((A3 ++ B) :: S) (.rsl 0 (12 + 5 * i + 4) (x.ren f).fields.length 4) (.sl 4 ((x.ren f).fields.map Fi.enc)):=Lent.rowP (show get2 ((A3 ++ B) :: S) 0 _ = _ from by
   have:=hBfi B
   rw [hfsAll] at this
   show (A3 ++ B)[_]? = some (AObj.row 55 4 (x.fields.map (Fi.ren f)).length (rowC Fi.enc (x.fields.map (Fi.ren f))))
   rw [List.length_map]; exact this) rfl fun _=>rfl
  exact .cons (.p _) (.cons (.p _) (.cons l1 (.cons (.p _) (.cons (.p _) (.cons (.p _) (.cons (.p _) (.cons (.p _) (.cons (.p _) (.cons (.p _) (.cons (.p _) (.cons (.p _) (.cons (.p _) (.cons (.p _) (.cons (.p _) (.cons (.p _) .nil)))))))))))))))
 have hfz : ∀ s : ByteArray,s.size <= 20000 -> (f s).size <= 20000:=fun s h=>by
  rw [<- hf];unfold zB7;split
  .show zM.size <= 20000
   decide
  .exact h
 have hq1s:=zRD (i:=i) hsm (zRU hfz (hx ▸ hsm.2 _ (List.getElem_mem hi)))
 have hq1n : ((p.set i (x.ren f)).map It.nd).sum <= 30000:=by
  have h1:=zRE p i x (x.ren f) hxi
  have h2:=zRR (f:=f) x
  have h4:=zLJ hg
  omega
 have hQ:=fun B=>zHU _ hq1s hq1n (zCu hw hwr) (len2 B) (by rw [List.map_set]; exact .refl _)
 rw [hck] at hQ
 have hC:=zI3 p hsm (Nat.le_trans (zLJ hg) (by omega)) hw A3 hBk S
 have hF0 : (z7 p).length <= 30000:=by
  have h1:=zB9 p p 0 []
  have h4:=zq (zFt p zFu) 62 0
  have h5:=zLJ hg
  unfold z7;rw [if_pos hw,List.length_append];simp only [List.length_nil] at h1;omega
 have hsf:=zHK (z7 p) (by omega) [[]]
 generalize z7 p = F at *
 refine zA [(2,1)] (by kernel_rfl) (by kernel_rfl) ?_
 simp [hB00,hBq0];refine ⟨_,_,hC,?_⟩;simp [hBq,hB0,hBq0,hB00];refine ⟨_,_,hQ _,?_⟩;simp [hBl];refine ⟨_,_,ADet.lend rfl hsf (.cons (.p (zGH (by show (A3 ++ _)[_]? = _; rw [hBB]; rfl))) (.cons (.p (zGH (by show (A3 ++ _)[_]? = _; rw [Nat.add_assoc,hBB]; rfl))) .nil)),?_⟩
 simp [hBq,hBq0,hB0,hB00]
theorem zLp (p : List It) (w : Int) (a : ByteArray) (S : ASt) : ADet Tryz.prog 5 [.agg [.p (prog p)],I w,Sg a] S (B true) S:=by
 have gC:=fun S=>zMJ S p
 cases hg : great p with
 | true =>
  rw [hg] at gC;refine ADet.intro mixed Tryz.call5 Tryz.func5 rfl ?_;simp [Tryz.ntmps5];refine ⟨_,_,zBU _,?_⟩;simp;refine ⟨_,_,gC _,?_⟩
  simp
 | false =>
 have hsm:=zNR hg
 have wC:=fun S=>zCm p hsm S
 cases hw : z6 p with
 | false =>
  rw [hg] at gC;rw [hw] at wC;refine ADet.intro mixed Tryz.call5 Tryz.func5 rfl ?_;simp [Tryz.ntmps5];refine ⟨_,_,zBU _,?_⟩;simp;refine ⟨_,_,gC _,?_⟩;simp;refine ⟨_,_,wC _,?_⟩
  simp
 | true =>
 by_cases hneg : w < 0
 .rw [hg] at gC
  rw [hw] at wC;refine ADet.intro mixed Tryz.call5 Tryz.func5 rfl ?_;simp [Tryz.ntmps5];refine ⟨_,_,zBU _,?_⟩;simp;refine ⟨_,_,gC _,?_⟩;simp;refine ⟨_,_,wC _,?_⟩;simp [hneg]
 obtain ⟨i,rfl⟩ : ∃ i : Nat,w = (i : Int):=⟨w.toNat,by omega⟩
 by_cases hi : i < p.length
 .by_cases h3 : p[i].kind = 3
  .exact zY5 p hg hw i hi _ rfl h3 a S
  .rw [hg] at gC
   rw [hw] at wC
   have hi' : (i : Int) < (p.length : Int):=by omega
   have hi2 : ¬ (p.length : Int) <= (i : Int):=by omega
   have h3' : (p[i].kind != 3) = true:=by simpa using h3
   generalize hx : p[i] = x at *
   refine ADet.intro mixed Tryz.call5 Tryz.func5 rfl ?_;simp [Tryz.ntmps5];refine ⟨_,_,zBU _,?_⟩;simp;refine ⟨_,_,gC _,?_⟩;simp;refine ⟨_,_,wC _,?_⟩;simp [hi,hi',hi2,hneg,prog,hx,It.enc,h3,h3']
 .rw [hg] at gC
  rw [hw] at wC
  have hi2 : (p.length : Int) <= (i : Int):=by omega
  refine ADet.intro mixed Tryz.call5 Tryz.func5 rfl ?_;simp [Tryz.ntmps5];refine ⟨_,_,zBU _,?_⟩;simp;refine ⟨_,_,gC _,?_⟩;simp;refine ⟨_,_,wC _,?_⟩;simp [hi,hi2,hneg,prog]
end Go.Proofs.YtlclonljdagpkaaGreatDoor
