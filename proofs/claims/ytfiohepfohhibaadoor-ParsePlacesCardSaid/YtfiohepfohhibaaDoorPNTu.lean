/- A part of the proof. The statement is proved in the claim's last text. -/
import Derived.Test.YtfiohepfohhibaaDoorPNTt
import Derived.Test.YtfiohepfohhibaaDoorPNQj
set_option linter.unusedVariables false
set_option linter.unusedSimpArgs false
set_option maxRecDepth 100000
set_option maxHeartbeats 32000000
namespace Go.Proofs.YtfiohepfohhibaaDoor
open Go.RowKit
mutual
def St.atB (l : List Tok) : Int → St → Bool
 | q,.mk _ _ _ _ _ _ _ es b el ar pos=>decide (q < pos) && (tokB l pos && (Ex.atBs l es && (Ar.atBs l pos ar && (St.atBs l pos b && St.atBs l pos el))))
def St.atBs (l : List Tok) : Int → List St → Bool
 | _,[]=>true
 | q,s :: r=>St.atB l q s && St.atBs l s.pos r
def Ar.atBs (l : List Tok) : Int → List (ArOf St) → Bool
 | _,[]=>true
 | q,⟨_,_,b⟩ :: r=>St.atBs l q b && Ar.atBs l q r
end
theorem sts_at0 {l : List Tok} (q : Int) : St.atBs l q [] = true:=by rw [St.atBs]
theorem ars_at0 {l : List Tok} (q : Int) : Ar.atBs l q [] = true:=by rw [Ar.atBs]
theorem exs_at0 {l : List Tok} : Ex.atBs l [] = true:=by rw [Ex.atBs]
def StPl (l : List Tok) (q : Int) (x : St) : Prop:=Ex.atBs l x.exprs = true ∧ Ar.atBs l q x.arms = true ∧ St.atBs l q x.body = true ∧ St.atBs l q x.els = true
theorem st_atB {l : List Tok} {x : St} {q pos : Int} (h : StPl l pos x) (hp : tokB l pos = true) (hq : q < pos) : St.atB l q (x.at pos) = true:=by
 obtain ⟨a,b,c,d⟩:=h
 unfold St.at
 rw [St.atB,a,b,c,d,hp,decide_eq_true hq]
 rfl
theorem sts_cons {l : List Tok} {x : St} {r : List St} {q : Int} (h : St.atB l q x = true) (k : St.atBs l x.pos r = true) : St.atBs l q (x :: r) = true:=by rw [St.atBs,h,k]; rfl
theorem ars_snoc {l : List Tok} {q : Int} {a : Ar} : ∀ {acc : List Ar},Ar.atBs l q acc = true → St.atBs l q a.body = true → Ar.atBs l q (acc ++ [a]) = true
 | [],_,h=>by
  obtain ⟨v,nm,b⟩:=a
  rw [List.nil_append,Ar.atBs,Ar.atBs,h]
  rfl
 | ⟨v,nm,b⟩ :: r,k,h=>by
  rw [Ar.atBs,Bool.and_eq_true] at k
  rw [List.cons_append,Ar.atBs,k.1,ars_snoc k.2 h]
  rfl
def Lo (l : List Tok) (q : Int) (i : Nat) : Prop:=∀ (k : Nat) (t : Tok),i ≤ k → l[k]? = some t → q < (t.pos : Int)
theorem Lo.up {l : List Tok} {q : Int} {i j : Nat} (h : Lo l q i) (k : i ≤ j) : Lo l q j:=fun m t a b=>h m t (Nat.le_trans k a) b
def Asc (l : List Tok) : Prop:=∀ (i j : Nat) (t u : Tok),i < j → l[i]? = some t → l[j]? = some u → t.pos < u.pos
theorem Asc.lo {l : List Tok} (h : Asc l) {i : Nat} {t : Tok} (ht : l[i]? = some t) : Lo l t.pos (i + 1):=fun k u a b=>by
 have:=h i k t u a ht b
 omega
theorem st_at_deep (s : St) (pos : Int) : (s.at pos).deep = s.deep:=by
 obtain ⟨op,nm,sc,ns,t,int,pl,es,b,el,ar,q⟩:=s
 unfold St.at St.op St.type St.exprs St.body St.els St.arms
 rw [St.deep,St.deep]
theorem sts_deep_le {n : Nat} : ∀ {xs : List St},(∀ x ∈ xs,x.deep ≤ n) → St.deeps xs ≤ n
 | [],_=>by rw [St.deeps]; omega
 | x :: r,h=>by
  have h1:=h x (by simp)
  have h2:=sts_deep_le (xs:=r) fun y hy=>h y (List.mem_cons_of_mem _ hy)
  rw [St.deeps]
  omega
theorem ars_deep_le {n : Nat} : ∀ {xs : List Ar},(∀ a ∈ xs,∀ x ∈ a.body,x.deep ≤ n) → Ar.deeps xs ≤ n
 | [],_=>by rw [Ar.deeps]; omega
 | ⟨v,nm,b⟩ :: r,h=>by
  have h1:=sts_deep_le (xs:=b) (h ⟨v,nm,b⟩ (by simp))
  have h2:=ars_deep_le (xs:=r) fun y hy=>h y (List.mem_cons_of_mem _ hy)
  rw [Ar.deeps]
  omega
def Dp (a b : Nat) (l : List St) : Prop:=∀ x ∈ l,x.deep + a ≤ b
theorem dp0 {a b : Nat} : Dp a b []:=nofun
theorem st_dp {a b : Nat} (hab : a ≤ b) {op int pos : Int} {nm sc : ByteArray} {ns : List ByteArray} {t : Ty} {pl : Pl} {es : List Ex} {bd el : List St} {ar : List Ar} (ht : t.deep + a ≤ b ∨ op ≠ 12) (he : ∀ x ∈ es,x.deep + a ≤ b) (h1 : Dp a b bd) (h2 : Dp a b el) (h3 : ∀ r ∈ ar,Dp a b r.body) : (St.mk op nm sc ns t int pl es bd el ar pos).deep + a ≤ b + 1:=by
 have k1 : mxL (es.map Ex.deep) ≤ b - a:=mxL_le fun y hy=>by
  obtain ⟨x,hx,rfl⟩:=List.mem_map.1 hy
  have:=he x hx
  omega
 have k2:=sts_deep_le (xs:=bd) (n:=b - a) fun x hx=>by have:=h1 x hx; omega
 have k3:=sts_deep_le (xs:=el) (n:=b - a) fun x hx=>by have:=h2 x hx; omega
 have k4:=ars_deep_le (xs:=ar) (n:=b - a) fun r hr x hx=>by have:=h3 r hr x hx; omega
 rw [St.deep]
 have k5 : (if op = 12 then t.deep else 0) ≤ b - a:=by
  split
  ·rename_i h
   rcases ht with h | h <;> omega
  ·omega
 omega
def GB (l : List Tok) (f : Blk) : Prop:=∀ (s : RS) (b : List St) (s' : RS),s.at_ ≤ l.length → f s = some (b,s') → Fw l s s' ∧ Dp s.at_ (s'.at_ + 2) b ∧ (s'.bad = false → ∀ q,Lo l q s.at_ → St.atBs l q b = true)
def GS (l : List Tok) (f : RS → Option (St × RS)) : Prop:=∀ (s : RS) (x : St) (s' : RS),s.at_ ≤ l.length → f s = some (x,s') → Fw l s s' ∧ x.deep + s.at_ ≤ s'.at_ + 3 ∧ (s'.bad = false → ∀ q,Lo l q s.at_ → StPl l q x)
theorem Dp.mono {a b c d : Nat} {l : List St} (h : Dp a b l) (h1 : c ≤ a) (h2 : b ≤ d) : Dp c d l:=fun x hx=>by have:=h x hx; omega
section
variable {l : List Tok} {n : Nat} {ex : RS → Option (Ex × RS)} {inner : Blk}
theorem name_go : GR l (nameQ l) (fun _=>0) fun _=>True:=fun s x s' hs h=>by
 unfold nameQ at h
 obtain ⟨rfl,rfl⟩:=Prod.mk.inj (Option.some.inj h)
 have f:=take_fw hs 2 (s:=s)
 have:=f.up
 exact ⟨f,by show 0 + s.at_ ≤ _; omega,fun _=>trivial⟩
theorem let_go (hex : ExG l ex) : GS l (letQ l n ex):=fun s x s' hs h=>by
 unfold letQ at h
 split at h
 ·have f1:=take_fw hs 3 (s:=s)
  have f2:=must_fw [(⟨#[123]⟩ : ByteArray)] _ f1.le
  split at h
  ·cases h
  rename_i ns s2 hp
  obtain ⟨k1,_,_⟩:=list_go name_go (⟨#[125]⟩ : ByteArray) n _ ns s2 f2.le hp
  have f3:=must_fw [(⟨#[61]⟩ : ByteArray)] _ k1.le
  obtain ⟨⟨e,s3⟩,hk,he⟩:=Option.map_eq_some_iff.1 h
  obtain ⟨rfl,rfl⟩:=Prod.mk.inj he
  try dsimp only
  obtain ⟨j1,j2,j3⟩:=hex _ e s3 f3.le hk
  have f4:=must_fw [(⟨#[59]⟩ : ByteArray)] _ j1.le
  have g:=(((f1.trans f2).trans k1).trans f3)
  have u:=g.up
  have u2:=f4.up
  have u3:=j1.up
  exact ⟨(g.trans j1).trans f4,st_dp (by omega) (.inr (by decide)) (mem_one (by omega)) dp0 dp0 nofun,fun hb q hq=>⟨atBs_of (mem_one (j3 (good_of f4 hb))),ars_at0 q,sts_at0 q,sts_at0 q⟩⟩
 ·have f1:=take_fw hs 2 (s:=s)
  have f2:=must_fw [(⟨#[61]⟩ : ByteArray)] _ f1.le
  obtain ⟨⟨e,s3⟩,hk,he⟩:=Option.map_eq_some_iff.1 h
  obtain ⟨rfl,rfl⟩:=Prod.mk.inj he
  try dsimp only
  obtain ⟨j1,j2,j3⟩:=lent_go hex n _ e s3 f2.le hk
  have f4:=must_fw [(⟨#[59]⟩ : ByteArray)] _ j1.le
  have g:=f1.trans f2
  have u:=g.up
  have u2:=f4.up
  have u3:=j1.up
  exact ⟨(g.trans j1).trans f4,st_dp (by omega) (.inr (by decide)) (mem_one (by omega)) dp0 dp0 nofun,fun hb q hq=>⟨atBs_of (mem_one (j3 (good_of f4 hb))),ars_at0 q,sts_at0 q,sts_at0 q⟩⟩
theorem leaf_go {s s' : RS} {op int : Int} {nm sc : ByteArray} (f : Fw l s s') (h : op ≠ 12) : Fw l s s' ∧ (St.mk op nm sc [] zeroT int zeroPl [] [] [] [] 0).deep + s.at_ ≤ s'.at_ + 3 ∧ (s'.bad = false → ∀ q,Lo l q s.at_ → StPl l q (St.mk op nm sc [] zeroT int zeroPl [] [] [] [] 0)):=by
 have:=f.up
 exact ⟨f,st_dp (by omega) (.inr h) nofun dp0 dp0 nofun,fun _ q _=>⟨exs_at0,ars_at0 q,sts_at0 q,sts_at0 q⟩⟩
theorem drop_go : GS l (dropQ l):=fun s x s' hs h=>by
 unfold dropQ at h
 obtain ⟨rfl,rfl⟩:=Prod.mk.inj (Option.some.inj h)
 have f1:=take_fw hs 2 (s:=s)
 exact leaf_go (f1.trans (must_fw [(⟨#[59]⟩ : ByteArray)] _ f1.le)) (by decide)
theorem block_go (hin : GB l inner) : GB l (blockQ l inner):=fun s b s' hs h=>by
 unfold blockQ at h
 have f1:=must_fw [(⟨#[123]⟩ : ByteArray)] _ hs
 obtain ⟨k1,k2,k3⟩:=hin _ b s' f1.le h
 have u:=f1.up
 exact ⟨f1.trans k1,k2.mono u (Nat.le_refl _),fun hb q hq=>k3 hb q (hq.up u)⟩
theorem while_go (hex : ExG l ex) (hin : GB l inner) : GS l (whileQ l ex inner):=fun s x s' hs h=>by
 unfold whileQ at h
 split at h
 ·cases h
 rename_i e s1 he
 obtain ⟨j1,j2,j3⟩:=hex _ e s1 hs he
 obtain ⟨⟨b,s2⟩,hk,he⟩:=Option.map_eq_some_iff.1 h
 obtain ⟨rfl,rfl⟩:=Prod.mk.inj he
 try dsimp only
 obtain ⟨k1,k2,k3⟩:=block_go hin _ b s2 j1.le hk
 have u:=j1.up
 have u2:=k1.up
 exact ⟨j1.trans k1,st_dp (by omega) (.inr (by decide)) (mem_one (by omega)) (k2.mono u (Nat.le_refl _)) dp0 nofun,fun hb q hq=>⟨atBs_of (mem_one (j3 (good_of k1 hb))),ars_at0 q,k3 hb q (hq.up u),sts_at0 q⟩⟩
theorem branch_go (hex : ExG l ex) (hin : GB l inner) : GS l (branchQ l ex inner):=fun s x s' hs h=>by
 unfold branchQ at h
 split at h
 ·cases h
 rename_i e s1 he
 obtain ⟨j1,j2,j3⟩:=hex _ e s1 hs he
 have u:=j1.up
 split at h
 ·cases h
 rename_i b s2 hb2
 obtain ⟨k1,k2,k3⟩:=block_go hin _ b s2 j1.le hb2
 have u2:=k1.up
 split at h
 ·have f3:=may_fw k1.le (⟨#[101,108,115,101]⟩ : ByteArray)
  have u3:=f3.up
  obtain ⟨⟨c,s3⟩,hk,he⟩:=Option.map_eq_some_iff.1 h
  obtain ⟨rfl,rfl⟩:=Prod.mk.inj he
  try dsimp only
  obtain ⟨i1,i2,i3⟩:=block_go hin _ c s3 f3.le hk
  have u4:=i1.up
  have g:=f3.trans i1
  exact ⟨(j1.trans k1).trans g,st_dp (by omega) (.inr (by decide)) (mem_one (by omega)) (k2.mono u (by omega)) (i2.mono (by omega) (Nat.le_refl _)) nofun,fun hb q hq=>⟨atBs_of (mem_one (j3 (good_of (k1.trans g) hb))),ars_at0 q,k3 (good_of g hb) q (hq.up u),i3 hb q (hq.up (by omega))⟩⟩
 ·obtain ⟨rfl,rfl⟩:=Prod.mk.inj (Option.some.inj h)
  exact ⟨j1.trans k1,st_dp (by omega) (.inr (by decide)) (mem_one (by omega)) (k2.mono u (Nat.le_refl _)) dp0 nofun,fun hb q hq=>⟨atBs_of (mem_one (j3 (good_of k1 hb))),ars_at0 q,k3 hb q (hq.up u),sts_at0 q⟩⟩
theorem scope_go (hin : GB l inner) : GS l (scopeQ l inner):=fun s x s' hs h=>by
 unfold scopeQ at h
 obtain ⟨⟨b,s2⟩,hk,he⟩:=Option.map_eq_some_iff.1 h
 obtain ⟨rfl,rfl⟩:=Prod.mk.inj he
 try dsimp only
 obtain ⟨k1,k2,k3⟩:=block_go hin _ b s2 hs hk
 have u2:=k1.up
 exact ⟨k1,st_dp (by omega) (.inr (by decide)) nofun k2 dp0 nofun,fun hb q hq=>⟨exs_at0,ars_at0 q,k3 hb q hq,sts_at0 q⟩⟩
theorem plain_go (hin : GB l inner) : GS l (plainQ inner):=fun s x s' hs h=>by
 unfold plainQ at h
 obtain ⟨⟨b,s2⟩,hk,he⟩:=Option.map_eq_some_iff.1 h
 obtain ⟨rfl,rfl⟩:=Prod.mk.inj he
 try dsimp only
 obtain ⟨k1,k2,k3⟩:=hin _ b s2 hs hk
 have u2:=k1.up
 exact ⟨k1,st_dp (by omega) (.inr (by decide)) nofun k2 dp0 nofun,fun hb q hq=>⟨exs_at0,ars_at0 q,k3 hb q hq,sts_at0 q⟩⟩
theorem lock_go (hin : GB l inner) : GS l (lockQ l n inner):=fun s x s' hs h=>by
 unfold lockQ at h
 split at h
 ·cases h
 rename_i p s1 hp
 have f0:=path_fw hs hp
 have f1:=must_fw [(⟨#[97,115]⟩ : ByteArray)] _ f0.le
 have f2:=take_fw f1.le 2
 have g:=(f0.trans f1).trans f2
 have u:=g.up
 obtain ⟨⟨b,s2⟩,hk,he⟩:=Option.map_eq_some_iff.1 h
 obtain ⟨rfl,rfl⟩:=Prod.mk.inj he
 try dsimp only
 obtain ⟨k1,k2,k3⟩:=block_go hin _ b s2 f2.le hk
 have u2:=k1.up
 exact ⟨g.trans k1,st_dp (by omega) (.inr (by decide)) nofun (k2.mono u (Nat.le_refl _)) dp0 nofun,fun hb q hq=>⟨exs_at0,ars_at0 q,k3 hb q (hq.up u),sts_at0 q⟩⟩
theorem arm_go (hin : GB l inner) (s : RS) (x : Ar) (s' : RS) (hs : s.at_ ≤ l.length) (h : armQ l inner s = some (x,s')) : Fw l s s' ∧ Dp s.at_ (s'.at_ + 2) x.body ∧ (s'.bad = false → ∀ q,Lo l q s.at_ → St.atBs l q x.body = true):=by
 unfold armQ at h
 have f1:=take_fw hs 3 (s:=s)
 simp only at h
 split at h
 ·have f2:=may_fw f1.le (⟨#[40]⟩ : ByteArray)
  have f3:=take_fw f2.le 2
  have f4:=must_fw [(⟨#[41]⟩ : ByteArray)] _ f3.le
  have f5:=must_fw [(⟨#[61,62]⟩ : ByteArray)] _ f4.le
  have g:=(((f1.trans f2).trans f3).trans f4).trans f5
  have u:=g.up
  obtain ⟨⟨b,s2⟩,hk,he⟩:=Option.map_eq_some_iff.1 h
  obtain ⟨rfl,rfl⟩:=Prod.mk.inj he
  try dsimp only
  obtain ⟨k1,k2,k3⟩:=block_go hin _ b s2 f5.le hk
  exact ⟨g.trans k1,k2.mono u (Nat.le_refl _),fun hb q hq=>k3 hb q (hq.up u)⟩
 ·have f2:=must_fw [(⟨#[61,62]⟩ : ByteArray)] _ f1.le
  have g:=f1.trans f2
  have u:=g.up
  obtain ⟨⟨b,s2⟩,hk,he⟩:=Option.map_eq_some_iff.1 h
  obtain ⟨rfl,rfl⟩:=Prod.mk.inj he
  try dsimp only
  obtain ⟨k1,k2,k3⟩:=block_go hin _ b s2 f2.le hk
  exact ⟨g.trans k1,k2.mono u (Nat.le_refl _),fun hb q hq=>k3 hb q (hq.up u)⟩
theorem arms_go (hin : GB l inner) : ∀ (n : Nat) (acc : List Ar) (s : RS) (xs : List Ar) (s' : RS) (B : Nat),B ≤ s.at_ → s.at_ ≤ l.length → (∀ a ∈ acc,Dp B (s.at_ + 2) a.body) → (s.bad = false → ∀ q,Lo l q B → Ar.atBs l q acc = true) → armsQ l inner n acc s = some (xs,s') → Fw l s s' ∧ (∀ a ∈ xs,Dp B (s'.at_ + 2) a.body) ∧ (s'.bad = false → ∀ q,Lo l q B → Ar.atBs l q xs = true)
 | 0,acc,s,xs,s',B,_,_,_,_,h=>by simp [armsQ] at h
 | n + 1,acc,s,xs,s',B,hB,hs,hd,ha,h=>by
  unfold armsQ at h
  split at h
  ·cases h
   exact ⟨.refl hs,hd,ha⟩
  rename_i hb0
  have hb : s.bad = false:=by simpa using hb0
  split at h
  ·obtain ⟨rfl,rfl⟩:=Prod.mk.inj (Option.some.inj h)
   have f:=may_fw hs (⟨#[125]⟩ : ByteArray)
   have u:=f.up
   exact ⟨f,fun a h=>(hd a h).mono (Nat.le_refl _) (by omega),fun hb1=>ha hb⟩
  split at h
  ·cases h
  rename_i a s1 hq
  obtain ⟨j1,j2,j3⟩:=arm_go hin s a s1 hs hq
  have u:=j1.up
  obtain ⟨k1,k2,k3⟩:=arms_go hin n (acc ++ [a]) s1 xs s' B (by omega) j1.le (fun z hz=>by
   rcases List.mem_append.1 hz with h | h
   ·exact (hd z h).mono (Nat.le_refl _) (by omega)
   ·obtain rfl : z = a:=by simpa using h
    exact j2.mono hB (Nat.le_refl _)) (fun hb1 q hq=>ars_snoc (ha hb q hq) (j3 hb1 q (hq.up hB))) h
  exact ⟨j1.trans k1,k2,k3⟩
theorem match_go (hin : GB l inner) : GS l (matchQ l n inner):=fun s x s' hs h=>by
 unfold matchQ at h
 have f1:=take_fw hs 2 (s:=s)
 have f2:=must_fw [(⟨#[58]⟩ : ByteArray)] _ f1.le
 have f3:=take_fw f2.le 3
 have f4:=must_fw [(⟨#[123]⟩ : ByteArray)] _ f3.le
 have g:=((f1.trans f2).trans f3).trans f4
 have u:=g.up
 simp only at h
 obtain ⟨⟨ars,s2⟩,hk,he⟩:=Option.map_eq_some_iff.1 h
 obtain ⟨rfl,rfl⟩:=Prod.mk.inj he
 try dsimp only
 obtain ⟨k1,k2,k3⟩:=arms_go hin n [] _ ars s2 s.at_ u f4.le nofun (fun _ q _=>ars_at0 q) hk
 have f5:=few_fw k1.le ars.length
 have u2:=k1.up
 exact ⟨(g.trans k1).trans f5,st_dp (by show s.at_ ≤ s2.at_ + 2; omega) (.inr (by decide)) nofun dp0 dp0 k2,fun hb q hq=>⟨exs_at0,k3 (good_of f5 hb) q hq,sts_at0 q,sts_at0 q⟩⟩
theorem spawn_go (hex : ExG l ex) (hin : GB l inner) : GS l (spawnQ l n ex inner):=fun s x s' hs h=>by
 unfold spawnQ at h
 have f1:=must_fw [(⟨#[40]⟩ : ByteArray)] _ hs
 have u1:=f1.up
 split at h
 ·cases h
 rename_i hs1 s1 hp
 obtain ⟨j1,j2,j3⟩:=list_go (hand_go (lent_go hex n)) (⟨#[41]⟩ : ByteArray) n _ hs1 s1 f1.le hp
 have u2:=j1.up
 obtain ⟨⟨b,s2⟩,hk,he⟩:=Option.map_eq_some_iff.1 h
 obtain ⟨rfl,rfl⟩:=Prod.mk.inj he
 try dsimp only
 obtain ⟨k1,k2,k3⟩:=block_go hin _ b s2 j1.le hk
 have u3:=k1.up
 refine ⟨(f1.trans j1).trans k1,st_dp (by omega) (.inr (by decide)) (fun y hy=>?_) (k2.mono (by omega) (Nat.le_refl _)) dp0 nofun,fun hb q hq=>⟨atBs_of fun y hy=>?_,ars_at0 q,k3 hb q (hq.up (by omega)),sts_at0 q⟩⟩
 ·obtain ⟨z,hz,rfl⟩:=List.mem_map.1 hy
  have:=j2 z hz
  omega
 ·obtain ⟨z,hz,rfl⟩:=List.mem_map.1 hy
  exact j3 (good_of k1 hb) z hz
theorem chan_go : GS l (chanQ l n):=fun s x s' hs h=>by
 unfold chanQ at h
 have f1:=must_fw [(⟨#[60]⟩ : ByteArray)] _ hs
 split at h
 ·cases h
 rename_i t s1 ht
 obtain ⟨k1,k2,_⟩:=kind_go n _ t s1 f1.le ht
 dsimp only at h
 obtain ⟨v,hv,he⟩:=Option.map_eq_some_iff.1 h
 obtain ⟨rfl,rfl⟩:=Prod.mk.inj he
 have f2:=must_fw [(⟨#[62]⟩ : ByteArray),(⟨#[40]⟩ : ByteArray)] _ k1.le
 have f3:=take_fw f2.le 4
 have f4 : Fw l (takeP l (mustP l s1 [(⟨#[62]⟩ : ByteArray),(⟨#[40]⟩ : ByteArray)]) 4) (roomR (takeP l (mustP l s1 [(⟨#[62]⟩ : ByteArray),(⟨#[40]⟩ : ByteArray)]) 4) v):=⟨f3.le,Nat.le_refl _,id⟩
 have f5:=must_fw [(⟨#[41]⟩ : ByteArray),(⟨#[97,115]⟩ : ByteArray)] _ f4.le
 have f6:=take_fw f5.le 2
 have f7:=must_fw [(⟨#[44]⟩ : ByteArray)] _ f6.le
 have f8:=take_fw f7.le 2
 have f9:=must_fw [(⟨#[59]⟩ : ByteArray)] _ f8.le
 have g:=(((((((f2.trans f3).trans f4).trans f5).trans f6).trans f7).trans f8).trans f9)
 have u1:=f1.up
 have u2:=g.up
 have u3:=k1.up
 exact ⟨(f1.trans k1).trans g,st_dp (by omega) (.inl (by omega)) nofun dp0 dp0 nofun,fun _ q _=>⟨exs_at0,ars_at0 q,sts_at0 q,sts_at0 q⟩⟩
theorem word_go (hex : ExG l ex) (hin : GB l inner) (w : ByteArray) (s : RS) (hs : s.at_ ≤ l.length) (x : St) (s' : RS) (h : wordQ l n ex inner w s = some (some (x,s'))) : Fw l s s' ∧ x.deep + s.at_ ≤ s'.at_ + 3 ∧ (s'.bad = false → ∀ q,Lo l q s.at_ → StPl l q x):=by
 have go : ∀ {f : RS → Option (St × RS)},GS l f → some (f s) = some (some (x,s')) → Fw l s s' ∧ x.deep + s.at_ ≤ s'.at_ + 3 ∧ (s'.bad = false → ∀ q,Lo l q s.at_ → StPl l q x):=fun hf e=>hf s x s' hs (Option.some.inj e)
 unfold wordQ at h
 by_cases h0 : sEq w (⟨#[108,101,116]⟩ : ByteArray) = true
 ·rw [if_pos h0] at h; exact go (let_go hex) h
 rw [if_neg h0] at h
 by_cases h1 : sEq w (⟨#[100,114,111,112]⟩ : ByteArray) = true
 ·rw [if_pos h1] at h; exact go drop_go h
 rw [if_neg h1] at h
 by_cases h2 : sEq w (⟨#[105,102]⟩ : ByteArray) = true
 ·rw [if_pos h2] at h; exact go (branch_go hex hin) h
 rw [if_neg h2] at h
 by_cases h3 : sEq w (⟨#[119,104,105,108,101]⟩ : ByteArray) = true
 ·rw [if_pos h3] at h; exact go (while_go hex hin) h
 rw [if_neg h3] at h
 by_cases h4 : sEq w (⟨#[109,97,116,99,104]⟩ : ByteArray) = true
 ·rw [if_pos h4] at h; exact go (match_go hin) h
 rw [if_neg h4] at h
 by_cases h5 : sEq w (⟨#[115,99,111,112,101]⟩ : ByteArray) = true
 ·rw [if_pos h5] at h; exact go (scope_go hin) h
 rw [if_neg h5] at h
 by_cases h6 : sEq w (⟨#[115,112,97,119,110]⟩ : ByteArray) = true
 ·rw [if_pos h6] at h; exact go (spawn_go hex hin) h
 rw [if_neg h6] at h
 by_cases h7 : sEq w (⟨#[108,111,99,107]⟩ : ByteArray) = true
 ·rw [if_pos h7] at h; exact go (lock_go hin) h
 rw [if_neg h7] at h
 by_cases h8 : sEq w (⟨#[99,104,97,110]⟩ : ByteArray) = true
 ·rw [if_pos h8] at h; exact go chan_go h
 rw [if_neg h8] at h
 by_cases h9 : sEq w (⟨#[123]⟩ : ByteArray) = true
 ·rw [if_pos h9] at h; exact go (plain_go hin) h
 rw [if_neg h9] at h
 cases h
def One (l : List Tok) (s : RS) (x : St) (s' : RS) : Prop:=Fw l s s' ∧ x.deep + s.at_ ≤ s'.at_ + 2 ∧ (s'.bad = false → s.at_ < s'.at_ ∧ Lo l x.pos (s.at_ + 1) ∧ ∀ q,Lo l q s.at_ → St.atB l q x = true)
theorem step_none {s s' : RS} (h : stepQ l n ex inner s = some (none,s')) : s' = s:=by
 unfold stepQ at h
 have first : ∀ s1,firstQ l n ex inner s = some (none,s1) → s1 = s:=fun s1 h=>by
  unfold firstQ at h
  split at h
  ·cases h; rfl
  split at h
  ·cases h; rfl
  ·split at h
   ·cases h; rfl
   ·cases h
   ·cases h
 split at h
 ·cases h
 ·cases h
 ·rename_i s1 hf
  obtain rfl:=first s1 hf
  unfold assignQ at h
  split at h
  ·cases h; rfl
  split at h
  ·cases h; rfl
  ·split at h
   ·split at h
    ·cases h
    ·split at h
     ·obtain ⟨⟨e,s3⟩,hk,he⟩:=Option.map_eq_some_iff.1 h
      cases he
     ·cases h; rfl
   ·cases h; rfl
theorem one_of (hA : Asc l) {s s1 : RS} {t : Tok} {st : St} (hx : l[s.at_]? = some t) (f : Fw l s s1) (hlt : s1.bad = false → s.at_ < s1.at_) (hd : st.deep + s.at_ ≤ s1.at_ + 2) (h : s1.bad = false → StPl l t.pos st) : One l s (st.at t.pos) s1:=by
 refine ⟨f,by rw [st_at_deep]; exact hd,fun hb=>⟨hlt hb,hA.lo hx,fun q hq=>st_atB (h hb) (tok_get hx) (hq _ t (Nat.le_refl _) hx)⟩⟩
theorem step_go (hA : Asc l) (hex : ExG l ex) (hin : GB l inner) (s : RS) (x : St) (s' : RS) (hs : s.at_ ≤ l.length) (h : stepQ l n ex inner s = some (some x,s')) : One l s x s':=by
 unfold stepQ at h
 have first : ∀ (x : St) (s' : RS),firstQ l n ex inner s = some (some x,s') → One l s x s':=fun x s' h=>by
  unfold firstQ at h
  split at h
  ·cases h
  cases hx : l[s.at_]? with
  | none=>rw [hx] at h; cases h
  | some t =>
  rw [hx] at h
  have hlt:=(List.getElem?_eq_some_iff.1 hx).1
  have f0 : Fw l s ⟨s.at_ + 1,s.bad,s.full⟩:=⟨hlt,Nat.le_succ _,id⟩
  simp only at h
  split at h
  ·cases h
  ·cases h
  ·rename_i st s1 hw
   obtain ⟨e1,e2⟩:=Prod.mk.inj (Option.some.inj h)
   obtain rfl:=Option.some.inj e1
   subst e2
   obtain ⟨k1,k2,k3⟩:=word_go hex hin t.text _ f0.le st s1 hw
   have u : s.at_ + 1 ≤ s1.at_:=k1.up
   have k2 : st.deep + (s.at_ + 1) ≤ s1.at_ + 3:=k2
   exact one_of hA hx (f0.trans k1) (fun _=>u) (by omega) fun hb=>k3 hb _ (hA.lo hx)
 split at h
 ·cases h
 ·rename_i st s1 hf
  cases h
  exact first _ _ hf
 ·rename_i s1 hf
  have hs1 : s1 = s:=by
   have : stepQ l n ex (fun _=>none) s = stepQ l n ex (fun _=>none) s:=rfl
   unfold firstQ at hf
   split at hf
   ·cases hf; rfl
   split at hf
   ·cases hf; rfl
   ·split at hf
    ·cases hf; rfl
    ·cases hf
    ·cases hf
  subst hs1
  unfold assignQ at h
  split at h
  ·cases h
  rename_i hb0
  have hb : s1.bad = false:=by simpa using hb0
  cases hx : l[s1.at_]? with
  | none=>rw [hx] at h; cases h
  | some t =>
  rw [hx] at h
  simp only at h
  split at h
  ·rename_i hk2
   split at h
   ·cases h
   rename_i p s2 hp
   have f0:=path_fw hs hp
   have u0 : s1.at_ + 1 ≤ s2.at_:=by
    unfold pathP at hp
    obtain ⟨⟨ys,s4⟩,hL,he⟩:=Option.map_eq_some_iff.1 hp
    obtain ⟨_,rfl⟩:=Prod.mk.inj he
    have:=(pathL_fw n _ _ ys s4 (take_fw hs 2).le hL).up
    rw [take_at (hand_of hb hx hk2.1)] at this
    exact this
   split at h
   ·have f1:=may_fw f0.le (⟨#[61]⟩ : ByteArray)
    have u1:=f1.up
    obtain ⟨⟨e,s3⟩,hk,he⟩:=Option.map_eq_some_iff.1 h
    obtain ⟨e1,e2⟩:=Prod.mk.inj he
    obtain rfl:=Option.some.inj e1
    subst e2
    try dsimp only
    obtain ⟨j1,j2,j3⟩:=hex _ e s3 f1.le hk
    have f4:=must_fw [(⟨#[59]⟩ : ByteArray)] _ j1.le
    have g:=((f0.trans f1).trans j1).trans f4
    have u2:=j1.up
    have u3:=f4.up
    exact one_of (st:=.mk 3 emS emS [] zeroT 0 p [e] [] [] [] t.pos) hA hx g (fun _=>by omega) (st_dp (by omega) (.inr (by decide)) (mem_one (by omega)) dp0 dp0 nofun) fun hb=>⟨atBs_of (mem_one (j3 (good_of f4 hb))),ars_at0 _,sts_at0 _,sts_at0 _⟩
   ·cases h
  ·cases h
theorem last_go (hA : Asc l) (hex : ExG l ex) {s s2 : RS} {e : Ex} (hs : s.at_ ≤ l.length) (h : ex s = some (e,s2)) : One l s ((st0 4 emS emS [e] [] []).at (placeP l s)) (mustP l s2 [(⟨#[59]⟩ : ByteArray)]):=by
 obtain ⟨j1,j2,j3⟩:=hex _ e s2 hs h
 have f4:=must_fw [(⟨#[59]⟩ : ByteArray)] _ j1.le
 have p4:=must_pg (⟨#[59]⟩ : ByteArray) [] _ j1.le
 have u1:=j1.up
 have u4:=f4.up
 have g:=j1.trans f4
 have hd : (st0 4 emS emS [e] [] []).deep + s.at_ ≤ (mustP l s2 [(⟨#[59]⟩ : ByteArray)]).at_ + 2:=st_dp (by omega) (.inr (by decide)) (mem_one (by omega)) dp0 dp0 nofun
 cases hx : l[s.at_]? with
 | some t =>
  rw [place_get hx]
  exact one_of hA hx g (fun hb=>by have:=p4 hb; omega) hd fun hb=>⟨atBs_of (mem_one (j3 (good_of f4 hb))),ars_at0 _,sts_at0 _,sts_at0 _⟩
 | none =>
  refine ⟨g,by rw [st_at_deep]; exact hd,fun hb=>?_⟩
  have h1:=p4 hb
  have h2:=f4.le
  have h3:=List.getElem?_eq_none_iff.1 hx
  omega
end
theorem inner_go {l : List Tok} (hA : Asc l) : ∀ (n : Nat) (acc : List St) (s : RS) (b : List St) (s' : RS),s.at_ ≤ l.length → innerQ l n acc s = some (b,s') → Fw l s s' ∧ ∃ w,b = acc ++ w ∧ Dp s.at_ (s'.at_ + 2) w ∧ (s'.bad = false → ∀ q,Lo l q s.at_ → St.atBs l q w = true):=by
 intro n
 induction n with
 | zero=>intro acc s b s' _ h; simp [innerQ] at h
 | succ n ih =>
 intro acc s b s' hs h
 have hin : GB l (innerQ l n []):=fun s b s' hs h=>by
  obtain ⟨f,w,e,h1,h2⟩:=ih [] s b s' hs h
  rw [List.nil_append] at e
  subst e
  exact ⟨f,h1,h2⟩
 have go : ∀ (x : St) (s1 : RS),One l s x s1 → innerQ l n (acc ++ [x]) s1 = some (b,s') → Fw l s s' ∧ ∃ w,b = acc ++ w ∧ Dp s.at_ (s'.at_ + 2) w ∧ (s'.bad = false → ∀ q,Lo l q s.at_ → St.atBs l q w = true):=fun x s1 ho h=>by
  obtain ⟨o1,o2,o3⟩:=ho
  obtain ⟨f,w,e,h1,h2⟩:=ih (acc ++ [x]) s1 b s' o1.le h
  have u:=o1.up
  have u2:=f.up
  refine ⟨o1.trans f,x :: w,by rw [e,List.append_assoc]; rfl,fun y hy=>?_,fun hb q hq=>?_⟩
  ·rcases List.mem_cons.1 hy with rfl | hy
   ·omega
   ·have:=h1 y hy
    omega
  ·obtain ⟨p1,p2,p3⟩:=o3 (good_of f hb)
   exact sts_cons (p3 q hq) (h2 hb _ (p2.up p1))
 unfold innerQ at h
 split at h
 ·cases h
  exact ⟨.refl hs,[],by simp,dp0,fun _ q _=>sts_at0 q⟩
 split at h
 ·obtain ⟨rfl,rfl⟩:=Prod.mk.inj (Option.some.inj h)
  exact ⟨may_fw hs _,[],by simp,dp0,fun _ q _=>sts_at0 q⟩
 split at h
 ·cases h
 ·rename_i st s1 hq
  exact go st s1 (step_go hA (strong_go n 6) hin s st s1 hs hq) h
 ·rename_i s1 hq
  obtain rfl:=step_none hq
  split at h
  ·cases h
  rename_i e s2 he
  exact go _ _ (last_go hA (strong_go n 6) hs he) h
theorem inner_gb {l : List Tok} (hA : Asc l) (n : Nat) : GB l (innerQ l n []):=fun s b s' hs h=>by
 obtain ⟨f,w,e,h1,h2⟩:=inner_go hA n [] s b s' hs h
 rw [List.nil_append] at e
 subst e
 exact ⟨f,h1,h2⟩
theorem bodyQ_go {l : List Tok} (hA : Asc l) : ∀ (n : Nat) (acc : List St) (s : RS) (b : List St) (e : Ex) (s' : RS) (B : Nat),B ≤ s.at_ → Dp B (s.at_ + 2) acc → s.at_ ≤ l.length → bodyQ l n acc s = some ((b,e),s') → Fw l s s' ∧ Dp B (s'.at_ + 2) b ∧ e.deep + s.at_ ≤ s'.at_ + 1 ∧ (s'.bad = false → Ex.atB l e = true ∧ ∃ w,b = acc ++ w ∧ ∀ q,Lo l q s.at_ → St.atBs l q w = true):=by
 intro n
 induction n with
 | zero=>intro acc s b e s' B _ _ _ h; simp [bodyQ] at h
 | succ n ih =>
 intro acc s b e s' B hB hacc hs h
 have go : ∀ (x : St) (s1 : RS),One l s x s1 → bodyQ l n (acc ++ [x]) s1 = some ((b,e),s') → Fw l s s' ∧ Dp B (s'.at_ + 2) b ∧ e.deep + s.at_ ≤ s'.at_ + 1 ∧ (s'.bad = false → Ex.atB l e = true ∧ ∃ w,b = acc ++ w ∧ ∀ q,Lo l q s.at_ → St.atBs l q w = true):=fun x s1 ho h=>by
  obtain ⟨o1,o2,o3⟩:=ho
  have u:=o1.up
  obtain ⟨f,h1,h2,h3⟩:=ih (acc ++ [x]) s1 b e s' B (by omega) (fun y hy=>by
   rcases List.mem_append.1 hy with h | h
   ·have:=hacc y h; omega
   ·obtain rfl : y = x:=by simpa using h
    omega) o1.le h
  refine ⟨o1.trans f,h1,by omega,fun hb=>?_⟩
  obtain ⟨p1,p2,p3⟩:=o3 (good_of f hb)
  obtain ⟨e1,w,e2,e3⟩:=h3 hb
  exact ⟨e1,x :: w,by rw [e2,List.append_assoc]; rfl,fun q hq=>sts_cons (p3 q hq) (e3 _ (p2.up p1))⟩
 unfold bodyQ at h
 split at h
 ·rename_i hb
  obtain ⟨e1,rfl⟩:=Prod.mk.inj (Option.some.inj h)
  obtain ⟨rfl,rfl⟩:=Prod.mk.inj e1
  exact ⟨.refl hs,dp0,by rw [zeroX_dp]; omega,fun h=>by rw [hb] at h; cases h⟩
 split at h
 ·cases h
 ·rename_i st s1 hq
  exact go st s1 (step_go hA (strong_go n 6) (inner_gb hA n) s st s1 hs hq) h
 ·rename_i s1 hq
  obtain rfl:=step_none hq
  split at h
  ·cases h
  rename_i e0 s2 he
  split at h
  ·obtain ⟨e1,rfl⟩:=Prod.mk.inj (Option.some.inj h)
   obtain ⟨rfl,rfl⟩:=Prod.mk.inj e1
   obtain ⟨j1,j2,j3⟩:=strong_go n 6 _ e0 s2 hs he
   have u:=j1.up
   exact ⟨j1,fun y hy=>by have:=hacc y hy; omega,j2,fun hb=>⟨j3 hb,[],by simp,fun q _=>sts_at0 q⟩⟩
  ·exact go _ _ (last_go hA (strong_go n 6) hs he) h
end Go.Proofs.YtfiohepfohhibaaDoor
namespace Go.Proofs.YtfiohepfohhibaaDoor
open Go.RowKit
def It.atB (l : List Tok) (x : It) : Bool:=tokB l x.pos && ((x.kind != 3 || Ex.atB l x.ret) && St.atBs l x.pos x.body)
def Its.at_ (l : List Tok) : Int → List It → Prop
 | _,[]=>True
 | q,x :: r=>(q < x.pos ∧ It.atB l x = true) ∧ Its.at_ l x.pos r
theorem its_get {l : List Tok} : ∀ {p : List It} {q : Int},Its.at_ l q p → ∀ (i : Nat) (x : It),p[i]? = some x → It.atB l x = true ∧ (∀ (y : It),0 < i → p[i - 1]? = some y → y.pos < x.pos)
 | [],q,h,i,x,hx=>by simp at hx
 | z :: r,q,h,0,x,hx=>by
  simp only [List.getElem?_cons_zero,Option.some.injEq] at hx
  subst hx
  exact ⟨h.1.2,fun y h0=>absurd h0 (Nat.lt_irrefl 0)⟩
 | z :: r,q,h,i + 1,x,hx=>by
  simp only [List.getElem?_cons_succ] at hx
  obtain ⟨a,b⟩:=its_get h.2 i x hx
  refine ⟨a,fun y _ hy=>?_⟩
  rw [Nat.add_sub_cancel] at hy
  cases i with
  | zero =>
   simp only [List.getElem?_cons_zero,Option.some.injEq] at hy
   subst hy
   cases r with
   | nil=>simp at hx
   | cons u r =>
    simp only [List.getElem?_cons_zero,Option.some.injEq] at hx
    subst hx
    exact h.2.1.1
  | succ i =>
   simp only [List.getElem?_cons_succ] at hy
   exact b y (Nat.succ_pos i) (by rw [Nat.add_sub_cancel]; exact hy)
section
variable {l : List Tok}
theorem zeroT_dp : zeroT.deep = 1:=by rw [show zeroT = Ty.mk 0 emS [] from rfl,Ty.deep,Ty.deeps]
theorem field_go (n : Nat) : GR l (fieldP l n) (fun f=>f.type.deep) fun _=>True:=fun s x s' hs h=>by
 unfold fieldP at h
 obtain ⟨⟨t,s1⟩,hk,he⟩:=Option.map_eq_some_iff.1 h
 obtain ⟨rfl,rfl⟩:=Prod.mk.inj he
 try dsimp only
 have f1:=take_fw hs 2 (s:=s)
 have f2:=must_fw [(⟨#[58]⟩ : ByteArray)] _ f1.le
 obtain ⟨k1,k2,_⟩:=kind_go n _ t s1 f2.le hk
 have u:=(f1.trans f2).up
 exact ⟨(f1.trans f2).trans k1,by omega,fun _=>trivial⟩
theorem variant_go (n : Nat) : GR l (variantP l n) (fun f=>f.type.deep) fun _=>True:=fun s x s' hs h=>by
 unfold variantP at h
 have f1:=take_fw hs 3 (s:=s)
 dsimp only at h
 split at h
 ·obtain ⟨⟨t,s1⟩,hk,he⟩:=Option.map_eq_some_iff.1 h
  obtain ⟨rfl,rfl⟩:=Prod.mk.inj he
  try dsimp only
  have f2:=may_fw f1.le (⟨#[40]⟩ : ByteArray)
  obtain ⟨k1,k2,_⟩:=kind_go n _ t s1 f2.le hk
  have f3:=must_fw [(⟨#[41]⟩ : ByteArray)] _ k1.le
  have u:=(f1.trans f2).up
  have u3:=f3.up
  exact ⟨((f1.trans f2).trans k1).trans f3,by omega,fun _=>trivial⟩
 ·obtain ⟨rfl,rfl⟩:=Prod.mk.inj (Option.some.inj h)
  have u:=f1.up
  refine ⟨f1,?_,fun _=>trivial⟩
  show zeroT.deep + _ ≤ _
  rw [zeroT_dp]; omega
def OneI (l : List Tok) (s : RS) (x : It) (s' : RS) : Prop:=Fw l s s' ∧ x.deep + s.at_ ≤ s'.at_ + 3 ∧ (s'.bad = false → s.at_ < s'.at_ ∧ It.atB l x = true ∧ ∃ t,l[s.at_]? = some t ∧ x.pos = t.pos)
theorem it_dp {a b : Nat} (hab : a ≤ b) {k pos : Int} {nm : ByteArray} {fs : List Fi} {t : Ty} {bd : List St} {e : Ex} (hf : ∀ x ∈ fs,x.type.deep + a ≤ b + 1) (ht : t.deep + a ≤ b + 1) (he : e.deep + a ≤ b + 1) (hb : Dp a (b + 2) bd) : (It.mk k nm fs t bd e pos).deep + a ≤ b + 3:=by
 have h1 : mxL (fs.map fun f=>f.type.deep) ≤ b + 1 - a:=mxL_le fun y hy=>by
  obtain ⟨x,hx,rfl⟩:=List.mem_map.1 hy
  have:=hf x hx
  omega
 have h2 : mxL (bd.map St.deep) ≤ b + 2 - a:=mxL_le fun y hy=>by
  obtain ⟨x,hx,rfl⟩:=List.mem_map.1 hy
  have:=hb x hx
  omega
 show max (max (max t.deep e.deep) (mxL (fs.map fun f=>f.type.deep))) (mxL (bd.map St.deep)) + 1 + a ≤ b + 3
 omega
theorem item_go (hA : Asc l) {n : Nat} {s : RS} {x : It} {s' : RS} (hs : s.at_ ≤ l.length) (h : itemQ l n s = some (x,s')) : OneI l s x s':=by
 have data : ∀ (w : ByteArray) (k : Int) (rd : RS → Option (Fi × RS)),k ≠ 3 → GR l rd (fun f=>f.type.deep) (fun _=>True) → isP l s w 0 = true → ((listP l rd (⟨#[125]⟩ : ByteArray) n (mustP l (takeP l (mayP l s w) 3) [(⟨#[123]⟩ : ByteArray)])).map fun r=>((⟨k,takeT l (mayP l s w) 3,r.1,zeroT,[],zeroX,placeP l s⟩ : It),r.2)) = some (x,s') → OneI l s x s':=fun w k rd hk hrd hi h=>by
  obtain ⟨⟨fs,s1⟩,hL,he⟩:=Option.map_eq_some_iff.1 h
  obtain ⟨rfl,rfl⟩:=Prod.mk.inj he
  try dsimp only
  have f1:=may_fw hs w
  have p1:=(may_pg hi).1
  have f2:=take_fw f1.le 3
  have f3:=must_fw [(⟨#[123]⟩ : ByteArray)] _ f2.le
  obtain ⟨k1,k2,_⟩:=list_go hrd (⟨#[125]⟩ : ByteArray) n _ fs s1 f3.le hL
  have g:=(f2.trans f3).trans k1
  have u:=g.up
  have u1:=f1.up
  have u2:=(f2.trans f3).up
  obtain ⟨t,ht⟩:=is_get hi
  refine ⟨f1.trans g,it_dp (by omega) (fun z hz=>by have:=k2 z hz; omega) (by rw [zeroT_dp]; omega) (by rw [zeroX_dp]; omega) dp0,fun hb=>⟨by omega,?_,t,ht,congrArg Nat.cast (place_get ht)⟩⟩
  show (tokB l (placeP l s) && ((k != 3 || Ex.atB l zeroX) && St.atBs l (placeP l s) [])) = true
  rw [place_tok hi,sts_at0,show (k != 3) = true by simpa using hk]
  rfl
 unfold itemQ at h
 split at h
 ·rename_i hi
  unfold itemP at h
  rw [if_pos hi] at h
  exact data _ 1 _ (by decide) (field_go n) hi h
 split at h
 ·rename_i h0 hi
  unfold itemP at h
  rw [if_neg h0,if_pos hi] at h
  exact data _ 2 _ (by decide) (variant_go n) hi h
 split at h
 ·cases h
 rename_i fs s2 hk
 split at h
 ·cases h
 rename_i t s3 ht
 split at h
 ·cases h
 rename_i b e s4 he
 obtain ⟨rfl,rfl⟩:=Prod.mk.inj (Option.some.inj h)
 have f1:=must_fw [(⟨#[102,110]⟩ : ByteArray)] _ hs
 have p1:=must_pg (⟨#[102,110]⟩ : ByteArray) [] s hs
 have f2:=take_fw f1.le 2
 have f3:=must_fw [(⟨#[40]⟩ : ByteArray)] _ f2.le
 obtain ⟨k1,k2,_⟩:=list_go (field_go n) (⟨#[41]⟩ : ByteArray) n _ fs s2 f3.le hk
 have f4:=must_fw [(⟨#[45,62]⟩ : ByteArray)] _ k1.le
 obtain ⟨t1,t2,_⟩:=kind_go n _ t s3 f4.le ht
 have f5:=must_fw [(⟨#[123]⟩ : ByteArray)] _ t1.le
 have u1:=f1.up
 have u2:=f2.up
 have u3:=f3.up
 have u4:=k1.up
 have u5:=f4.up
 have u6:=t1.up
 have u7:=f5.up
 obtain ⟨b1,b2,b3,b4⟩:=bodyQ_go hA n [] _ b e s4 s.at_ (by omega) dp0 f5.le he
 have f6:=must_fw [(⟨#[125]⟩ : ByteArray)] _ b1.le
 have u8:=b1.up
 have u9:=f6.up
 have g:=(((((f2.trans f3).trans k1).trans f4).trans t1).trans f5).trans (b1.trans f6)
 have ug:=g.up
 refine ⟨f1.trans g,it_dp (by omega) (fun z hz=>by have:=k2 z hz; omega) (by omega) (by omega) fun z hz=>by have:=b2 z hz; omega,fun hb=>?_⟩
 have hb4:=good_of f6 hb
 have hb1:=good_of g hb
 have hlt:=p1 hb1
 have hsl : s.at_ < l.length:=by have:=f1.le; omega
 obtain ⟨tk,hx⟩ : ∃ x,l[s.at_]? = some x:=⟨_,List.getElem?_eq_getElem hsl⟩
 obtain ⟨e1,w,e2,e3⟩:=b4 hb4
 rw [List.nil_append] at e2
 subst e2
 refine ⟨by omega,?_,tk,hx,congrArg Nat.cast (place_get hx)⟩
 show (tokB l (placeP l s) && (((3 : Int) != 3 || Ex.atB l e) && St.atBs l (placeP l s) b)) = true
 rw [place_get hx,tok_get hx,e1,e3 tk.pos ((hA.lo hx).up (by omega))]
 rfl
theorem items_go (hA : Asc l) (n : Nat) : ∀ (f : Nat) (acc : List It) (s : RS) (p : List It) (s' : RS),s.at_ ≤ l.length → itemsQ l n f acc s = some (p,s') → Fw l s s' ∧ ∃ w,p = acc ++ w ∧ (∀ x ∈ w,x.deep ≤ l.length + 3) ∧ (s'.bad = false → ∀ q,Lo l q s.at_ → Its.at_ l q w)
 | 0,acc,s,p,s',_,h=>by simp [itemsQ] at h
 | f + 1,acc,s,p,s',hs,h=>by
  unfold itemsQ at h
  split at h
  ·split at h
   ·cases h
   rename_i x s1 hx
   obtain ⟨j1,j2,j3⟩:=item_go hA hs hx
   obtain ⟨k1,w,e,k2,k3⟩:=items_go hA n f (acc ++ [x]) s1 p s' j1.le h
   have hle:=j1.le
   refine ⟨j1.trans k1,x :: w,by rw [e,List.append_assoc]; rfl,fun z hz=>?_,fun hb q hq=>?_⟩
   ·rcases List.mem_cons.1 hz with rfl | hz
    ·omega
    ·exact k2 z hz
   ·obtain ⟨i1,i2,t,i3,i4⟩:=j3 (good_of k1 hb)
    rw [Its.at_]
    refine ⟨⟨by rw [i4]; exact hq _ t (Nat.le_refl _) i3,i2⟩,?_⟩
    rw [i4]
    exact k3 hb _ ((hA.lo i3).up i1)
  ·cases h
   exact ⟨.refl hs,[],by simp,nofun,fun _ _ _=>trivial⟩
theorem read_go (hA : Asc l) {n f : Nat} {p : List It} {s' : RS} (h : itemsQ l n f [] ⟨0,false,false⟩ = some (p,s')) : itsDeep p ≤ l.length + 4 ∧ (s'.bad = false → Its.at_ l (-1) p):=by
 obtain ⟨_,w,e,h1,h2⟩:=items_go hA n f [] ⟨0,false,false⟩ p s' (Nat.zero_le _) h
 rw [List.nil_append] at e
 subst e
 have : mxL (p.map It.deep) ≤ l.length + 3:=mxL_le fun y hy=>by
  obtain ⟨x,hx,rfl⟩:=List.mem_map.1 hy
  exact h1 x hx
 exact ⟨by unfold itsDeep; omega,fun hb=>h2 hb _ fun k t _ _=>by omega⟩
end
theorem refuse_at {l : List Tok} {s : ByteArray} {p : List It} {s1 : RS} {e a : Int} (h : refuseQ l s p s1 = some (e,a)) : a = 0 ∨ a = (s.size : Int) ∨ tokB l a = true:=by
 unfold refuseQ at h
 split at h
 ·obtain ⟨_,rfl⟩:=Prod.mk.inj (Option.some.inj h)
  cases hx : l[s1.at_]? with
  | none=>exact .inr (.inl rfl)
  | some t=>exact .inr (.inr (tok_get hx))
 split at h
 ·cases h; exact .inl rfl
 split at h
 ·cases h; exact .inl rfl
 ·cases h
end Go.Proofs.YtfiohepfohhibaaDoor
