/- A part of the proof. The statement is proved in the claim's last text. -/
import Derived.Test.YtlclonljdagpkaaGreatDoorQMWp
import Derived.Test.YtlclonljdagpkaaGreatDoorQMCp
import Derived.Test.YtlclonljdagpkaaGreatDoorQMShelf
set_option linter.unusedVariables false
set_option linter.unusedSimpArgs false
set_option maxRecDepth 100000
set_option maxHeartbeats 32000000
namespace Go.Proofs.YtlclonljdagpkaaGreatDoor
open Go.RowKit
attribute [local simp] List.replicate List.range List.range.loop resA zR retA AV.cuts AV.cut AObj.cut trim wkR wkT wkL wkN wkNR wkNL wkM wkMR wkML
theorem zOR (f : Ty -> Ty) (l : List Ty) (hl : l.length <= 20000) (K : Nat) (caps : List AV) (S : ASt) (hc : ∀ x ∈ l,∀ L,ADet Tryz.prog K (tyV x :: AV.ups 1 caps) (L :: S) (tyV (f x)) (L :: S)) :
  ADet Tryz.prog 113 [.p (.sl 3 (l.map Ty.enc)),.fn (.func K) [] caps] S (.p (.sl 3 ((l.map f).map Ty.enc))) S:=by
 refine ADet.okP Tryz.call113 0 rfl fun hok=>?_
 have hlen:=okl hok
 refine ADet.intro mixed Tryz.call113 Tryz.func113 rfl ?_;simp [Tryz.ntmps113];refine zAR 33 3 (by decide) [] (fun q : Nat=>q <= l.length) (fun q=>[.p (.sl 3 (l.map Ty.enc)),.fn (.func K) [] (AV.ups 1 caps),.any,.any,.any,.osl 3 (((l.map f).map Ty.enc).take q) 0 0,.any,.any,.p (.sl 3 (l.map Ty.enc)),I l.length,I q,.any,.any,.any,.any,.any,.any,.any,.any,.any,.any,.any]) (fun q=>[.tok 33 3 q] :: S) (fun q=>l.length - q) 0 (Nat.zero_le _) ?_ ?_ ?_ ?_
 .simp
 .simp
 .rfl
 intro q hq
 by_cases hlt : q < l.length
 .have hlt' : (q : Int) < (l.length : Int):=by omega
  have hx:=fun L=>hc _ (List.getElem_mem hlt) L
  have hr:=zEB Ty.enc (l.map f) (q:=q) (by simpa using hlt)
  have hfx : (l.map f)[q]'(by simpa using hlt) = f l[q]:=by simp
  rw [hfx] at hr
  have hle : q + 1 <= 4294967296:=by omega
  have hmin : min q l.length = q:=by omega
  generalize hy : l[q] = x at *
  generalize f x = z at *
  simp [hlt,hlt',hy,zC4];refine ⟨_,_,hx _,?_⟩;simp [hle,hmin,zC4];exact ⟨q + 1,hlt,by omega,⟨by have hr2:=hr; simp only [List.map_map] at hr2; rw [<- hr2]; simp [zC4],zD hlt⟩,rfl⟩
 .have hlt' : ¬ (q : Int) < (l.length : Int):=by omega
  simp [hlt'];exact List.take_of_length_le (by simp; omega)
theorem zIP (f : Ex -> Ex) (l : List Ex) (hl : l.length <= 20000) (K : Nat) (caps : List AV) (S : ASt) (hc : ∀ x ∈ l,∀ L,ADet Tryz.prog K (exV x :: AV.ups 1 caps) (L :: S) (exV (f x)) (L :: S)) :
  ADet Tryz.prog 117 [.p (.sl 8 (l.map Ex.enc)),.fn (.func K) [] caps] S (.p (.sl 8 ((l.map f).map Ex.enc))) S:=by
 refine ADet.okP Tryz.call117 0 rfl fun hok=>?_
 have hlen:=okl hok
 refine ADet.intro mixed Tryz.call117 Tryz.func117 rfl ?_;simp [Tryz.ntmps117];refine zAR 40 8 (by decide) [] (fun q : Nat=>q <= l.length) (fun q=>[.p (.sl 8 (l.map Ex.enc)),.fn (.func K) [] (AV.ups 1 caps),.any,.any,.any,.osl 8 (((l.map f).map Ex.enc).take q) 0 0,.any,.any,.p (.sl 8 (l.map Ex.enc)),I l.length,I q,.any,.any,.any,.any,.any,.any,.any,.any,.any,.any,.any]) (fun q=>[.tok 40 8 q] :: S) (fun q=>l.length - q) 0 (Nat.zero_le _) ?_ ?_ ?_ ?_
 .simp
 .simp
 .rfl
 intro q hq
 by_cases hlt : q < l.length
 .have hlt' : (q : Int) < (l.length : Int):=by omega
  have hx:=fun L=>hc _ (List.getElem_mem hlt) L
  have hr:=zEB Ex.enc (l.map f) (q:=q) (by simpa using hlt)
  have hfx : (l.map f)[q]'(by simpa using hlt) = f l[q]:=by simp
  rw [hfx] at hr
  have hle : q + 1 <= 4294967296:=by omega
  have hmin : min q l.length = q:=by omega
  generalize hy : l[q] = x at *
  generalize f x = z at *
  simp [hlt,hlt',hy,zv];refine ⟨_,_,hx _,?_⟩;simp [hle,hmin,zv];exact ⟨q + 1,hlt,by omega,⟨by have hr2:=hr; simp only [List.map_map] at hr2; rw [<- hr2]; simp [zv],zD hlt⟩,rfl⟩
 .have hlt' : ¬ (q : Int) < (l.length : Int):=by omega
  simp [hlt'];exact List.take_of_length_le (by simp; omega)
theorem zOS (f : St -> St) (l : List St) (hl : l.length <= 20000) (K : Nat) (caps : List AV) (S : ASt) (hc : ∀ x ∈ l,∀ L,ADet Tryz.prog K (stmV x :: AV.ups 1 caps) (L :: S) (stmV (f x)) (L :: S)) :
  ADet Tryz.prog 119 [.p (.sl 15 (l.map St.enc)),.fn (.func K) [] caps] S (.p (.sl 15 ((l.map f).map St.enc))) S:=by
 refine ADet.okP Tryz.call119 0 rfl fun hok=>?_
 have hlen:=okl hok
 refine ADet.intro mixed Tryz.call119 Tryz.func119 rfl ?_;simp [Tryz.ntmps119];refine zAR 45 15 (by decide) [] (fun q : Nat=>q <= l.length) (fun q=>[.p (.sl 15 (l.map St.enc)),.fn (.func K) [] (AV.ups 1 caps),.any,.any,.any,.osl 15 (((l.map f).map St.enc).take q) 0 0,.any,.any,.p (.sl 15 (l.map St.enc)),I l.length,I q,.any,.any,.any,.any,.any,.any,.any,.any,.any,.any,.any]) (fun q=>[.tok 45 15 q] :: S) (fun q=>l.length - q) 0 (Nat.zero_le _) ?_ ?_ ?_ ?_
 .simp
 .simp
 .rfl
 intro q hq
 by_cases hlt : q < l.length
 .have hlt' : (q : Int) < (l.length : Int):=by omega
  have hx:=fun L=>hc _ (List.getElem_mem hlt) L
  have hr:=zEB St.enc (l.map f) (q:=q) (by simpa using hlt)
  have hfx : (l.map f)[q]'(by simpa using hlt) = f l[q]:=by simp
  rw [hfx] at hr
  have hle : q + 1 <= 4294967296:=by omega
  have hmin : min q l.length = q:=by omega
  generalize hy : l[q] = x at *
  generalize f x = z at *
  simp [hlt,hlt',hy,zAz];refine ⟨_,_,hx _,?_⟩;simp [hle,hmin,zAz];exact ⟨q + 1,hlt,by omega,⟨by have hr2:=hr; simp only [List.map_map] at hr2; rw [<- hr2]; simp [zAz],zD hlt⟩,rfl⟩
 .have hlt' : ¬ (q : Int) < (l.length : Int):=by omega
  simp [hlt'];exact List.take_of_length_le (by simp; omega)
theorem zQu (f : Ar -> Ar) (l : List Ar) (hl : l.length <= 20000) (K : Nat) (caps : List AV) (S : ASt) (hc : ∀ x ∈ l,∀ L,ADet Tryz.prog K (arV x :: AV.ups 1 caps) (L :: S) (arV (f x)) (L :: S)) :
  ADet Tryz.prog 121 [.p (.sl 3 (l.map Ar.enc)),.fn (.func K) [] caps] S (.p (.sl 3 ((l.map f).map Ar.enc))) S:=by
 refine ADet.okP Tryz.call121 0 rfl fun hok=>?_
 have hlen:=okl hok
 refine ADet.intro mixed Tryz.call121 Tryz.func121 rfl ?_;simp [Tryz.ntmps121];refine zAR 111 3 (by decide) [] (fun q : Nat=>q <= l.length) (fun q=>[.p (.sl 3 (l.map Ar.enc)),.fn (.func K) [] (AV.ups 1 caps),.any,.any,.any,.osl 3 (((l.map f).map Ar.enc).take q) 0 0,.any,.any,.p (.sl 3 (l.map Ar.enc)),I l.length,I q,.any,.any,.any,.any,.any,.any,.any,.any,.any,.any,.any]) (fun q=>[.tok 111 3 q] :: S) (fun q=>l.length - q) 0 (Nat.zero_le _) ?_ ?_ ?_ ?_
 .simp
 .simp
 .rfl
 intro q hq
 by_cases hlt : q < l.length
 .have hlt' : (q : Int) < (l.length : Int):=by omega
  have hx:=fun L=>hc _ (List.getElem_mem hlt) L
  have hr:=zEB Ar.enc (l.map f) (q:=q) (by simpa using hlt)
  have hfx : (l.map f)[q]'(by simpa using hlt) = f l[q]:=by simp
  rw [hfx] at hr
  have hle : q + 1 <= 4294967296:=by omega
  have hmin : min q l.length = q:=by omega
  generalize hy : l[q] = x at *
  generalize f x = z at *
  simp [hlt,hlt',hy,Ar.enc];refine ⟨_,_,hx _,?_⟩;simp [hle,hmin,Ar.enc];exact ⟨q + 1,hlt,by omega,⟨by have hr2:=hr; simp only [List.map_map] at hr2; rw [<- hr2]; simp [Ar.enc],zD hlt⟩,rfl⟩
 .have hlt' : ¬ (q : Int) < (l.length : Int):=by omega
  simp [hlt'];exact List.take_of_length_le (by simp; omega)
end Go.Proofs.YtlclonljdagpkaaGreatDoor
namespace Go.Proofs.YtlclonljdagpkaaGreatDoor
open Go.RowKit
theorem zOT {Pr : Prot} {φ : Fi2} {S : ASt} {w w' : World} (h : Rel Pr φ S w) (hb : Below w.heap.size w w') {E k n : Nat} {v : Value} {xs : List Value} {rows : List (List PV)} (ho : w'.ownsRow w.heap.size E k v n xs) (hr : rows.length = n) (hw : Wide k rows) (hx : zCP Pr k rows xs) :
  ∃ Pr',Stp Pr φ w Pr' φ w' /\ Rel Pr' φ S w' /\ RP Pr' (.sl k rows) v:=by
 obtain ⟨s,r⟩:=zGw h hb
 obtain ⟨hl,ho⟩:=ho
 rcases ho with ⟨rfl,rfl⟩ | ⟨g,cap,cur,rfl,hbg,hg,hnc,hcm,hcs,htake⟩
 .obtain rfl:=List.eq_nil_of_length_eq_zero hr
  exact ⟨Pr,s,r,.slemp _ none 0 (Nat.zero_le _)⟩
 .have hno : ∀ o,Pr g o = none:=fun o=>by
   cases hv : Pr g o with
   | none=>rfl
   | some v=>have:=zGM h hv; omega
  let Pr' : Prot:=fun b o=>if b = g /\ o < n * k then xs[o]? else Pr b o
  have hle : Pr.le Pr':=fun b o v hv=>by
   show (if b = g /\ o < n * k then xs[o]? else Pr b o) = some v
   rw [if_neg (fun hh=>by rw [hh.1,hno] at hv; cases hv)]; exact hv
  have hother : ∀ b o,b ≠ g -> Pr' b o = Pr b o:=fun b o hne=>by
   show (if b = g /\ o < n * k then xs[o]? else Pr b o) = Pr b o
   rw [if_neg (fun hh=>hne hh.1)]
  have hat : ∀ o,o < n * k -> Pr' g o = xs[o]?:=fun o ho=>by
   show (if g = g /\ o < n * k then xs[o]? else Pr g o) = xs[o]?
   rw [if_pos ⟨rfl,ho⟩]
  refine ⟨Pr',⟨hle,Fle.refl φ,s.fresh,s.fr,rfl,fun b o h0 h1=>?_⟩,⟨fun d i o ho=>?_,r.dis,r.lt,fun b o v hv=>?_,r.tb.of hle (fun _ _ _=>rfl) (fun d i e g he hg=>.inl ⟨d,i,e,he,hg⟩),r.shape⟩,?_⟩
  .refine .inr ?_
   rcases Classical.em (b = g) with rfl | hne
   .exact hbg
   .rw [hother b o hne] at h1; exact absurd h0 h1
  .obtain ⟨e,he,hre⟩:=r.obj d i o ho
   refine ⟨e,he,hre.keep hle (Fle.refl _) fun g' hg'=>⟨rfl,fun o hn=>?_⟩⟩
   have:=h.lt d i e g' he hg'
   rw [hother g' o (by omega)]; exact hn
  .rcases Classical.em (b = g /\ o < n * k) with ⟨rfl,ho⟩ | hne
   .rw [hat o ho] at hv
    rw [zBB hg,<- Array.getElem?_toList,<- hv,<- htake,List.getElem?_take_of_lt ho]
   .refine r.pr b o v ?_
    have : (if b = g /\ o < n * k then xs[o]? else Pr b o) = some v:=hv
    rwa [if_neg hne] at this
  .have key : ∀ (r : Nat) (row : List PV) (j : Nat) (p : PV),rows[r]? = some row -> row[j]? = some p -> Pr' g (0 + r * k + j) = some (xs.getD (r * k + j) undef) /\ RP Pr' p (xs.getD (r * k + j) undef):=fun r row j p a b=>by
    obtain ⟨u,h1,h2⟩:=hx r row j p a b
    have hlt : r * k + j < n * k:=by
     have:=(List.getElem?_eq_some_iff.1 h1).1
     rw [hl] at this; exact this
    rw [Nat.zero_add,hat _ hlt,h1,List.getD,h1];exact ⟨rfl,h2.mono hle⟩
   rcases Nat.eq_zero_or_pos n with h0 | hp
   .rw [h0] at hr
    obtain rfl:=List.eq_nil_of_length_eq_zero hr
    rw [h0];exact .slemp _ _ _ hcm
   .have:=RP.sl (Pr:=Pr') (rows:=rows) (b:=g) (off:=0) (cap:=cap) (k:=k) (fun r j=>xs.getD (r * k + j) undef) (by rw [hr]; exact hnc) hcm (fun r row a=>hw r row a) (fun r row j p a b=>(key r row j p a b).1) (fun r row j p a b=>(key r row j p a b).2)
    rwa [hr] at this
theorem zKS (l : List ByteArray) (hl : l.length <= 20000) (S : ASt) : ADet Tryz.prog 115 [.p (strs l)] S (.p (strs l)) S:=by
 refine ⟨Tryz.call115,fun Pr φ xs w hargs hR hne=>?_⟩
 obtain ⟨x,rfl,hx⟩ : ∃ x,xs = #[x] /\ RP Pr (strs l) x:=by
  have hs : xs.size = 1:=hargs.1.symm
  have h1 : xs[0]? = some xs[0]:=Array.getElem?_eq_getElem (by omega)
  have:=hargs.2 0 _ _ rfl h1
  cases this with
  | p h=>exact ⟨xs[0],Array.ext (by simp [hs]) (fun i h1 h2=>by
    have : i = 0:=by omega
    subst this; rfl),h⟩
 have hrow : zCP Pr 1 (l.map fun s=>[pS s]) (l.map Value.string):=fun r row j p a b=>by
  rw [List.getElem?_map] at a
  obtain ⟨s,hs,rfl⟩:=Option.map_eq_some_iff.1 a
  cases j with
  | zero =>
   simp at b;subst b
   exact ⟨.string s,by simp [hs],.v rfl⟩
  | succ j=>simp at b
 have hwide : Wide 1 (l.map fun s=>[pS s]):=fun r row a=>by
  rw [List.getElem?_map] at a
  obtain ⟨s,hs,rfl⟩:=Option.map_eq_some_iff.1 a
  rfl
 have fin : ∀ v' w',w'.ownsRow w.heap.size 9 1 v' l.length (l.map Value.string) -> Below w.heap.size w w' -> ∃ x Pr' φ',Ending.returned v' = .returned x /\ Stp Pr φ w Pr' φ' w' /\ Rel Pr' φ' S w' /\ RA Pr' φ' (.p (strs l)) x:=fun v' w' ho hb=>by
  obtain ⟨Pr',h1,h2,h3⟩:=zOT hR hb ho (rows:=l.map fun s=>[pS s]) (by simp) hwide hrow
  exact ⟨v',Pr',φ,rfl,h1,h2,.p h3⟩
 unfold strs at hx
 generalize hrows : (l.map fun s=>[pS s]) = rows at hx
 cases hx with
 | slemp _ A cap hc =>
  have hl0 : l = []:=by simpa using hrows
  subst hl0
  cases A with
  | none =>
   refine (Tryz.slices_Clone_string_nil 0 cap w).mono fun e w' ⟨he,hw⟩=>?_
   subst he hw
   exact ⟨_,Pr,φ,rfl,Stp.refl _ _ _,hR,.p (.slemp _ none 0 (Nat.zero_le _))⟩
  | some a =>
   refine (Tryz.slices_Clone_string_zero a cap w).mono fun e w' ⟨v',he,ho,_,hb⟩=>?_
   subst he
   exact fin v' w' ho hb
 | @sl _ b off cap _ vs h1 h2 h3 h4 h5 =>
  subst hrows
  have hcell : ∀ j,j < l.length -> w.cell? ⟨b,off + j,none⟩ = some (.string (l.getD j ByteArray.empty)):=fun j hj=>by
   have a1 : (l.map fun s=>[pS s])[j]? = some [pS l[j]]:=by simp [hj]
   have a2:=h4 j _ 0 _ a1 rfl
   have a3:=h5 j _ 0 _ a1 rfl
   have a4 : vs j 0 = .string l[j]:=by
    generalize vs j 0 = y at a3
    cases a3; rfl
   rw [a4] at a2
   have:=hR.pr _ _ _ a2
   rw [List.getD,List.getElem?_eq_getElem hj]
   simpa using this
  have:=Tryz.slices_Clone_string b off l.length cap l w (Nat.le_refl _) (by omega) hcell
  rw [List.length_map];refine this.mono fun e w' ⟨v',he,ho,_,hb⟩=>?_
  subst he;rw [List.take_length] at ho;exact fin v' w' ho hb
end Go.Proofs.YtlclonljdagpkaaGreatDoor
namespace Go.Proofs.YtlclonljdagpkaaGreatDoor
open Go.RowKit
attribute [local simp] List.replicate List.range List.range.loop resA zR retA zAi zAZ zY zAj zAb zQ rowA zf zT List.forall_mem_cons List.contains_cons List.contains_nil List.find? ze zd zS LCp LCl refL
mutual
def Ex.atm (g : Int -> Int) : Ex -> Ex
 | .mk op i n s p l a=>.mk op i n s p (Ex.atms g l) (g a)
def Ex.atms (g : Int -> Int) : List Ex -> List Ex
 | []=>[]
 | x :: l=>x.atm g :: Ex.atms g l
end
theorem zUS (g : Int -> Int) (l : List Ex) : Ex.atms g l = l.map (Ex.atm g):=by
 induction l with
 | nil=>rfl
 | cons x l ih=>simp [Ex.atms,ih]
theorem zZw (g : Int -> Int) (e : Ex) : e.atm g = .mk e.op e.int e.name e.second e.place (e.args.map (Ex.atm g)) (g e.pos):=by
 cases e; simp only [Ex.atm,zUS]; rfl
mutual
def St.atm (g : Int -> Int) : St -> St
 | .mk op n s ns t i p es b e l a=>.mk op n s ns t i p (es.map (Ex.atm g)) (St.atms g b) (St.atms g e) (Ar.atms g l) (g a)
def St.atms (g : Int -> Int) : List St -> List St
 | []=>[]
 | x :: l=>x.atm g :: St.atms g l
def Ar.atms (g : Int -> Int) : List (ArOf St) -> List (ArOf St)
 | []=>[]
 | ⟨v,n,b⟩ :: l=>⟨v,n,St.atms g b⟩ :: Ar.atms g l
end
theorem zQv (g : Int -> Int) (l : List St) : St.atms g l = l.map (St.atm g):=by
 induction l with
 | nil=>rfl
 | cons x l ih=>simp [St.atms,ih]
def Ar.atm (g : Int -> Int) (a : Ar) : Ar:=⟨a.variant,a.name,a.body.map (St.atm g)⟩
theorem zYq (g : Int -> Int) (l : List Ar) : Ar.atms g l = l.map (Ar.atm g):=by
 induction l with
 | nil=>rfl
 | cons x l ih=>obtain ⟨v,n,b⟩:=x; simp [Ar.atms,ih,Ar.atm,zQv]
theorem zZx (g : Int -> Int) (s : St) : s.atm g = .mk s.op s.name s.second s.names s.type s.int s.place (s.exprs.map (Ex.atm g)) (s.body.map (St.atm g)) (s.els.map (St.atm g)) (s.arms.map (Ar.atm g)) (g s.pos):=by
 cases s; simp only [St.atm,zQv,zYq]; rfl
def It.atm (g : Int -> Int) (x : It) : It:=⟨x.kind,x.name,x.fields,x.result,x.body.map (St.atm g),x.ret.atm g,g x.pos⟩
structure CpAt (F : Nat) (S : ASt) (d : Nat) : Prop where
 o1 : get2 S d 1 = some (.cells [.fn (.func F) [] []] 102)
 o3 : get2 S d 3 = some (.cells [.fn (.func 112) [] [.ptr 0 3 0]] 163)
 o4 : get2 S d 4 = some (.cells [.fn (.func 116) [] [.ptr 0 6 0,.ptr 0 4 0,.ptr 0 1 0]] 164)
 o5 : get2 S d 5 = some (.cells [.fn (.func 120) [] [.ptr 0 3 0,.ptr 0 6 0,.ptr 0 4 0,.ptr 0 5 0,.ptr 0 7 0,.ptr 0 1 0]] 165)
 o6 : get2 S d 6 = some (.cells [.fn (.func 114) [] []] 168)
 o7 : get2 S d 7 = some (.cells [.fn (.func 118) [] [.ptr 0 5 0]] 171)
 o8 : get2 S d 8 = some (.cells [.fn (.func 122) [] [.ptr 0 3 0]] 173)
theorem CpAt.push {F : Nat} {S : ASt} {d : Nat} (h : CpAt F S d) (L : List AObj) : CpAt F (L :: S) (d + 1):=⟨h.o1,h.o3,h.o4,h.o5,h.o6,h.o7,h.o8⟩
def AtF (F : Nat) (g : Int -> Int) : Prop:=∀ n S,ADet Tryz.prog F [I n] S (I (g n)) S
theorem zLe (F : Nat) : ∀ (t : Ty),TySm t -> ∀ (S : ASt) (d : Nat),CpAt F S d -> ADet Tryz.prog 112 [tyV t,.ptr d 3 0] S (tyV t) S:=by
 refine Ty.ind fun t ih hsm S d h=>?_
 obtain ⟨_,hn,hsz,hsm⟩:=hsm
 have o3:=h.o3
 have eC : ∀ L,ADet Tryz.prog 113 [.p (.sl 3 (t.args.map Ty.enc)),.fn (.func 112) [] [.ptr (d + 1) 3 0]] (L :: S) (.p (.sl 3 (t.args.map Ty.enc))) (L :: S):=fun L=>by
  have:=zOR (fun x=>x) t.args hsz 112 [.ptr (d + 1) 3 0] (L :: S) fun x hx M=>by
   have:=ih x hx (hsm x hx) _ _ ((h.push L).push M)
   simpa [AV.ups,AV.up] using this
  simpa using this
 refine ADet.intro mixed Tryz.call112 Tryz.func112 rfl ?_;simp [Tryz.ntmps112,o3];refine ⟨_,_,eC _,?_⟩;simp
theorem zMo (x : Pl) (hx : PlSm x) (S : ASt) : ADet Tryz.prog 114 [plV x] S (plV x) S:=by
 have cC:=fun S=>zKS x.path hx.2.1 S
 refine ADet.intro mixed Tryz.call114 Tryz.func114 rfl ?_;simp [Tryz.ntmps114];refine ⟨_,_,cC _,?_⟩;simp
theorem zQw (F : Nat) (g : Int -> Int) (hg : AtF F g) : ∀ (e : Ex),ExSm e -> ∀ (S : ASt) (d : Nat),CpAt F S d -> ADet Tryz.prog 116 [exV e,.ptr d 6 0,.ptr d 4 0,.ptr d 1 0] S (exV (e.atm g)) S:=by
 refine Ex.ind fun e ih hsm S d h=>?_
 obtain ⟨_,_,_,hpl,hsz,hsm⟩:=hsm
 have o1:=h.o1
 have o4:=h.o4
 have o6:=h.o6
 have pC:=fun S=>zMo e.place hpl S
 have gC:=fun S=>hg e.pos S
 have eC : ∀ L,ADet Tryz.prog 117 [.p (.sl 8 (e.args.map Ex.enc)),.fn (.func 116) [] [.ptr (d + 1) 6 0,.ptr (d + 1) 4 0,.ptr (d + 1) 1 0]] (L :: S) (.p (.sl 8 ((e.args.map (Ex.atm g)).map Ex.enc))) (L :: S):=fun L =>
  zIP (Ex.atm g) e.args hsz 116 _ (L :: S) fun x hx M=>by
   have:=ih x hx (hsm x hx) _ _ ((h.push L).push M)
   simpa [AV.ups,AV.up] using this
 rw [zZw]
 generalize e.args.map (Ex.atm g) = zs at *
 generalize g e.pos = gp at *
 refine ADet.intro mixed Tryz.call116 Tryz.func116 rfl ?_;simp [Tryz.ntmps116];refine zA [(5,3),(6,3),(8,3),(8,7),(10,3),(10,7)] (by kernel_rfl) (by kernel_rfl) ?_
 simp [o6];refine ⟨_,_,pC _,?_⟩;simp [o4];refine ⟨_,_,eC _,?_⟩;simp [o1];refine ⟨_,_,gC _,?_⟩;simp [Ex.op,Ex.int,Ex.name,Ex.second,Ex.place,Ex.args,Ex.pos]
def StCp (F : Nat) (g : Int -> Int) (s : St) : Prop:=∀ (S : ASt) (d : Nat),CpAt F S d -> ADet Tryz.prog 120 [stmV s,.ptr d 3 0,.ptr d 6 0,.ptr d 4 0,.ptr d 5 0,.ptr d 7 0,.ptr d 1 0] S (stmV (s.atm g)) S
theorem zEJ {F : Nat} {g : Int -> Int} {l : List St} (hl : l.length <= 20000) (h : ∀ x ∈ l,StCp F g x) {S : ASt} {d : Nat} (hc : CpAt F S d) :
  ADet Tryz.prog 119 [.p (.sl 15 (l.map St.enc)),.fn (.func 120) [] [.ptr d 3 0,.ptr d 6 0,.ptr d 4 0,.ptr d 5 0,.ptr d 7 0,.ptr d 1 0]] S (.p (.sl 15 ((l.map (St.atm g)).map St.enc))) S :=
 zOS (St.atm g) l hl 120 _ S fun x hx M=>by
  have:=h x hx _ _ (hc.push M)
  simpa [AV.ups,AV.up] using this
theorem zYr (F : Nat) (g : Int -> Int) (a : Ar) (hl : a.body.length <= 20000) (hb : ∀ x ∈ a.body,StCp F g x) (S : ASt) (d : Nat) (h : CpAt F S d) : ADet Tryz.prog 118 [arV a,.ptr d 5 0] S (arV (a.atm g)) S:=by
 have o5:=h.o5
 have eC:=fun L=>zEJ hl hb (h.push L)
 unfold Ar.atm
 generalize a.body.map (St.atm g) = zs at *
 refine ADet.intro mixed Tryz.call118 Tryz.func118 rfl ?_;simp [Tryz.ntmps118,o5];refine ⟨_,_,eC _,?_⟩;simp
theorem zWf (F : Nat) (g : Int -> Int) (hg : AtF F g) : ∀ (s : St),StSm s -> StCp F g s:=by
 refine St.ind fun s ihb ihe iha hsm S d h=>?_
 obtain ⟨_,_,_,hnm,hty,hpl,hes,hb,he,ha,sb,se,sa,sab⟩:=hsm
 have o1:=h.o1
 have o3:=h.o3
 have o4:=h.o4
 have o5:=h.o5
 have o6:=h.o6
 have o7:=h.o7
 have nC:=fun S=>zKS s.names hnm.1 S
 have tC:=fun L=>zLe F s.type hty _ _ (h.push L)
 have pC:=fun S=>zMo s.place hpl S
 have gC:=fun S=>hg s.pos S
 have xC : ∀ L,ADet Tryz.prog 117 [.p (.sl 8 (s.exprs.map Ex.enc)),.fn (.func 116) [] [.ptr (d + 1) 6 0,.ptr (d + 1) 4 0,.ptr (d + 1) 1 0]] (L :: S) (.p (.sl 8 ((s.exprs.map (Ex.atm g)).map Ex.enc))) (L :: S):=fun L =>
  zIP (Ex.atm g) s.exprs hes.1 116 _ (L :: S) fun x hx M=>by
   have:=zQw F g hg x (hes.2 x hx) _ _ ((h.push L).push M)
   simpa [AV.ups,AV.up] using this
 have bC:=fun L=>zEJ hb (fun x hx=>ihb x hx (sb x hx)) (h.push L)
 have lC:=fun L=>zEJ he (fun x hx=>ihe x hx (se x hx)) (h.push L)
 have aC : ∀ L,ADet Tryz.prog 121 [.p (.sl 3 (s.arms.map Ar.enc)),.fn (.func 118) [] [.ptr (d + 1) 5 0]] (L :: S) (.p (.sl 3 ((s.arms.map (Ar.atm g)).map Ar.enc))) (L :: S):=fun L =>
  zQu (Ar.atm g) s.arms ha 118 _ (L :: S) fun x hx M=>by
   have:=zYr F g x (sa x hx).2.2 (fun y hy=>iha x hx y hy (sab x hx y hy)) _ _ ((h.push L).push M)
   simpa [AV.ups,AV.up] using this
 rw [zZx]
 generalize s.exprs.map (Ex.atm g) = z1 at *
 generalize s.body.map (St.atm g) = z2 at *
 generalize s.els.map (St.atm g) = z3 at *
 generalize s.arms.map (Ar.atm g) = z4 at *
 generalize g s.pos = gp at *
 refine ADet.intro mixed Tryz.call120 Tryz.func120 rfl ?_;simp [Tryz.ntmps120];refine zA [(3,2),(5,2),(7,2),(7,6),(9,2),(9,6),(12,2),(12,6),(12,10),(13,2),(13,6),(13,10)] (by kernel_rfl) (by kernel_rfl) ?_
 simp;refine ⟨_,_,nC _,?_⟩;simp [o3];refine ⟨_,_,tC _,?_⟩;simp [o6];refine ⟨_,_,pC _,?_⟩;simp [o4];refine ⟨_,_,xC _,?_⟩;simp;refine zA [(5,3),(6,3),(9,3),(9,7),(10,3),(10,7),(12,3),(12,7),(12,11),(14,3),(14,7),(14,11)] (by kernel_rfl) (by kernel_rfl) ?_
 simp [o5];refine ⟨_,_,bC _,?_⟩;simp [o5];refine ⟨_,_,lC _,?_⟩;simp [o7];refine ⟨_,_,aC _,?_⟩;simp [o1];refine ⟨_,_,gC _,?_⟩;simp [St.op,St.name,St.second,St.names,St.type,St.int,St.place,St.exprs,St.body,St.els,St.arms,St.pos]
theorem zTc (F : Nat) (f : Fi) (hf : FiSm f) (S : ASt) (d : Nat) (h : CpAt F S d) : ADet Tryz.prog 122 [fiV f,.ptr d 3 0] S (fiV f) S:=by
 have o3:=h.o3
 have tC:=fun L=>zLe F f.type hf.2 _ _ (h.push L)
 refine ADet.intro mixed Tryz.call122 Tryz.func122 rfl ?_;simp [Tryz.ntmps122,o3];refine ⟨_,_,tC _,?_⟩;simp
mutual
theorem zQx : ∀ e : Ex,e.atm (fun n=>n) = e
 | .mk op i n s p l a=>by rw [Ex.atm,zJF l]
theorem zJF : ∀ l : List Ex,Ex.atms (fun n=>n) l = l
 | []=>rfl
 | x :: l=>by rw [Ex.atms,zQx x,zJF l]
end
mutual
theorem zWg : ∀ s : St,s.atm (fun n=>n) = s
 | .mk op n s ns t i p es b e l a=>by
  have h : es.map (Ex.atm fun n=>n) = es:=by rw [<- zUS]; exact zJF es
  rw [St.atm,zFC b,zFC e,zMp l,h]
theorem zFC : ∀ l : List St,St.atms (fun n=>n) l = l
 | []=>rfl
 | x :: l=>by rw [St.atms,zWg x,zFC l]
theorem zMp : ∀ l : List (ArOf St),Ar.atms (fun n=>n) l = l
 | []=>rfl
 | ⟨v,n,b⟩ :: l=>by rw [Ar.atms,zFC b,zMp l]
end
theorem zWh (x : It) : x.atm (fun n=>n) = x:=by
 obtain ⟨k,n,f,r,b,e,a⟩:=x
 unfold It.atm;simp only;rw [<- zQv,zFC b,zQx e]
end Go.Proofs.YtlclonljdagpkaaGreatDoor
