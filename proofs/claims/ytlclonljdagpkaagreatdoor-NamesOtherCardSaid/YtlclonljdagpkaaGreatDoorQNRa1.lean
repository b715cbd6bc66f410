/- A part of the proof. The statement is proved in the claim's last text. -/
import Derived.Test.YtlclonljdagpkaaGreatDoorQNQk
import Derived.Test.YtlclonljdagpkaaGreatDoorQMLd
import Derived.Test.YtlclonljdagpkaaGreatDoorQMLe
set_option linter.unusedVariables false
set_option linter.unusedSimpArgs false
set_option maxRecDepth 100000
set_option maxHeartbeats 32000000
namespace Go.Proofs.YtlclonljdagpkaaGreatDoor
open Go.RowKit
attribute [local simp] List.replicate List.range List.range.loop resA zR retA AV.cuts AV.cut AObj.cut trim wkR wkT wkL wkN wkNR wkNL wkM wkMR wkML
theorem zLq (n : Nat) (a b : List AV) : AV.mrgs n (a ++ b) = AV.mrgs n a ++ AV.mrgs n b:=by rw [zC9,zC9,zC9,List.map_append]
theorem zHV (n : Nat) (a b : List AV) : AV.cuts n (a ++ b) = AV.cuts n a ++ AV.cuts n b:=by rw [zBr,zBr,zBr,List.map_append]
theorem zKk (f : Fi -> Fi) (l : List Fi) (hl : l.length <= 20000) (K : Nat) (caps : List AV) (L : List AObj) (R : ASt) (hc : ∀ x ∈ l,∀ M,ADet Tryz.prog K (fiV x :: AV.ups 1 caps) (M :: L :: R) (fiV (f x)) (M :: L :: R)) :
  ADet Tryz.prog 125 [.p (.sl 4 (l.map Fi.enc)),.fn (.func K) [] caps] (L :: R) (.rsl 0 L.length l.length 4) ((L ++ [.row 55 4 l.length (rowC Fi.enc (l.map f))]) :: R):=by
 refine ADet.okP Tryz.call125 0 rfl fun hok=>?_
 have hlen:=okl hok
 refine ADet.merge mixed Tryz.call125 Tryz.func125 rfl ?_;simp [Tryz.ntmps125];refine zCf 55 4 (by decide) [] (fun q : Nat=>q <= l.length) (fun q=>[.p (.sl 4 (l.map Fi.enc)),.fn (.func K) [] (AV.ups 1 caps),.any,.any,.any,.rsl 0 0 q 4,.any,.any,.p (.sl 4 (l.map Fi.enc)),I l.length,I q,.any,.any,.any,.any,.any,.any,.any,.any,.any,.any,.any]) (fun q=>[.row 55 4 q (rowC Fi.enc ((l.map f).take q))] :: L :: R) (fun q=>l.length - q) (fun _=>1) 0 (Nat.zero_le _) ?_ ?_ ?_ ?_ ?_
 .intro q _; simp
 .simp
 .simp
 .rfl
 intro q hq
 by_cases hlt : q < l.length
 .have hlt' : (q : Int) < (l.length : Int):=by omega
  have hx:=fun M=>hc _ (List.getElem_mem hlt) M
  have hr:=zPo Fi.enc (l.map f) (q:=q) (by simpa using hlt)
  have hfx : (l.map f)[q]'(by simpa using hlt) = f l[q]:=by simp
  rw [hfx] at hr
  have hcut:=zD6 Fi.enc ((l.map f).take q) 1
  have hle : q + 1 <= 4294967296:=by omega
  generalize rowC Fi.enc ((l.map f).take q) = rc at *
  generalize hy : l[q] = x at *
  generalize f x = z at *
  simp [hlt,hlt',hy,Fi.enc];refine ⟨_,_,hx _,?_⟩;simp [hle,Fi.enc];refine ⟨q + 1,hlt,by omega,⟨rfl,zD hlt⟩,rfl,?_⟩
  rw [hr,zBr,List.map_append,<- zBr,hcut];exact zL _
 .have hlt' : ¬ (q : Int) < (l.length : Int):=by omega
  have hql : q = l.length:=by omega
  subst hql
  have ht : (l.map f).take l.length = l.map f:=List.take_of_length_le (by simp)
  have hm:=zF5 Fi.enc (l.map f) L.length
  simp [ht,AV.mrg,AObj.mrg,hm]
end Go.Proofs.YtlclonljdagpkaaGreatDoor
