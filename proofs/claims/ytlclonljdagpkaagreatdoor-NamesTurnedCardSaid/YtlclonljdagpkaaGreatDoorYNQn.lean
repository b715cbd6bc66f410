/- A part of the proof. The statement is proved in the claim's last text. -/
import Derived.Test.YtlclonljdagpkaaGreatDoorYMNo
import Derived.Test.YtlclonljdagpkaaGreatDoorYMLt
import Derived.Test.YtlclonljdagpkaaGreatDoorYMLe
import Derived.Test.YtlclonljdagpkaaGreatDoorYMRoom
set_option linter.unusedVariables false
set_option linter.unusedSimpArgs false
set_option maxRecDepth 100000
set_option maxHeartbeats 32000000
namespace Go.Proofs.YtlclonljdagpkaaGreatDoor
open Go.RowKit
attribute [local simp] List.replicate List.range List.range.loop resA resOne retA AV.cuts AV.cut AObj.cut trim wkR wkT wkL wkN wkNR wkNL wkM wkMR wkML virtL virtO virt_get markL markO markR_get rowA awpI_nil awpI_cons List.forall_mem_cons List.contains_cons List.contains_nil List.find? nextD_eq awpD_nil awpD_cons LCp LCl refL
theorem pureRun_bind {P : Program} {α β : Type} (s : Sem α) (f : α → Sem β) (a : α) (h : pureRun P s = some a) : pureRun P (s >>= f) = pureRun P (f a):=by
 induction s with
 | pure b=>simp [pureRun] at h; subst h; rfl
 | program k ih=>exact ih P (by simpa [pureRun] using h)
 | mark m k ih=>exact ih (by simpa [pureRun] using h)
 | _=>simp [pureRun] at h
theorem pureRun_pure {P : Program} {α : Type} (a : α) : pureRun P (Pure.pure a : Sem α) = some a:=rfl
theorem prun_underlying {P : Program} {t : TypeId} {d : TypeDesc} (h : P.underlying t = some d) : pureRun P (underlying t) = some d:=by
 unfold underlying
 rw [pureRun_bind _ _ P rfl,h]
 rfl
theorem prun_part {P : Program} {t : TypeId} {k : IntKind} (h : P.underlying t = some (.int k)) {cs : Array Value} {off : Nat} {v : Value} (hx : cs[off]? = some v) : pureRun P (part t cs off) = some v:=by
 unfold part
 have h1 : pureRun P (isAgg t) = some false:=by
  unfold isAgg
  rw [pureRun_bind _ _ _ (prun_underlying h)]
  rfl
 rw [pureRun_bind _ _ _ h1]
 simp [hx]
 rfl
theorem prun_int {P : Program} {t : TypeId} {k kk : IntKind} (h : P.underlying t = some (.int k)) (n : Nat) (a b : Int) : pureRun P (Op.equalIn (n + 1) t (.int kk a) (.int kk b)) = some (a == b):=by
 rw [Op.equalIn,pureRun_bind _ _ _ (prun_underlying h)]
 simp [pureRun_pure]
theorem prun_equal2 {P : Program} {t : TypeId} {f0 f1 : Field} {k0 k1 k2 k3 : IntKind} (hu : P.underlying t = some (.struct #[f0,f1])) (h0 : P.underlying f0.type = some (.int k0)) (h1 : P.underlying f1.type = some (.int k1)) (n0 : f0.name ≠ "_") (n1 : f1.name ≠ "_") (o0 : f0.offset = 0) (o1 : f1.offset = 1) (hs : P.stoodInHeld t = false) (a b c d : Int) :
  pureRun P (Op.equal t (.agg #[.int k2 a,.int k3 b]) (.agg #[.int k2 c,.int k3 d])) = some (a == c && b == d):=by
 unfold Op.equal
 rw [show Op.maxDepth = 9998 + 1 + 1 from rfl,Op.equalIn,pureRun_bind _ _ _ (prun_underlying hu)]
 have p0:=fun (x y : Value)=>prun_part h0 (cs:=#[x,y]) (off:=0) (v:=x) rfl
 have p1:=fun (x y : Value)=>prun_part h1 (cs:=#[x,y]) (off:=1) (v:=y) rfl
 have c0:=prun_int h0 (kk:=k2) 9998 a c
 have c1:=prun_int h1 (kk:=k3) 9998 b d
 simp only
 rw [pureRun_bind _ _ P rfl,hs]
 simp [n0,n1,o0,o1]
 generalize (a == c) = x at *
 generalize (b == d) = y at *
 rw [pureRun_bind _ _ _ (p0 _ _),pureRun_bind _ _ _ (p0 _ _),pureRun_bind _ _ _ c0]
 cases x
 ·rfl
 ·simp only [Bool.true_eq_false,if_false,pure_bind,bind_assoc,Bool.true_and]
  rw [pureRun_bind _ _ _ (p1 _ _),pureRun_bind _ _ _ (p1 _ _),pureRun_bind _ _ _ c1]
  cases y <;> rfl
theorem equal_flt (a b c d : Int) : pureRun Tryz.prog (Op.equal 48 (.agg #[.int .i64 a,.int .i64 b]) (.agg #[.int .i64 c,.int .i64 d])) = some (a == c && b == d):=by
 obtain ⟨f0,f1,hu,h0,h1,n0,n1,o0,o1,hs⟩:=keyS_spec (by kernel_rfl : keyS Tryz.prog 48 = some (.int .i64,.int .i64))
 exact prun_equal2 hu h0 h1 n0 n1 o0 o1 hs a b c d
def spoilt (l : List Flt) (i : Nat) : List Flt:=(l.take i).map (fun f=>(f.1,-1)) ++ l.drop i
end Go.Proofs.YtlclonljdagpkaaGreatDoor
namespace Go.Proofs.YtlclonljdagpkaaGreatDoor
open Go.RowKit
theorem wkD (c : Nat) : wkL (List.replicate c AObj.dead) (List.replicate c AObj.dead):=by
 induction c with
 | zero=>trivial
 | succ c ih=>exact ih
end Go.Proofs.YtlclonljdagpkaaGreatDoor
