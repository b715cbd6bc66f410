/- A part of the proof. -/
import Derived.Test.YtdflkegnmmkkoaaGreatDoorWNSb
set_option linter.unusedVariables false
set_option linter.unusedSimpArgs false
set_option maxRecDepth 100000
set_option maxHeartbeats 32000000
namespace Go.Proofs.YtdflkegnmmkkoaaGreatDoor
open Go.RowKit _root_.Go.Proofs.Tryz
attribute [local simp] List.replicate List.range List.range.loop zJx zHo zJw
theorem zPF(s:St)(wa:StSm s)(Ub:∀x∈s.body,WSC x)(Mb:∀x∈s.els,WSC x)(Md:∀a∈s.arms,∀x∈a.body,WSC x)(d:Int)(S:ASt)(Dc: -1<=d)(Ta:d<=1000)(h0:1<=d)(ho:fmOk s.op=true)
  (fT:zAE s.op=false) (fP:zp s.op=false) (fB:zA1 s.op=true) (fE:zAp s.op=false) (fA:zAq s.op=false):ADet Tryz.prog 152 [stmV s,I d] S (B (s.whole d)) S:=by
 obtain⟨_,hn,Ra,Ja,Sb,Na,ua,hb,Xb,ee,Pd,Ie,has,Zf⟩:=wa
 have Pj:zi s.op<=6:=by unfold zi;split<;>omega
 have g1:=fun S=>fnNC s.op s.name hn S
 have g2:=fun S=>fnSC s.op s.u2 Ra S
 have g3:=fun S=>zB5 zBO s.names (zi s.op) (by omega) 51 [] [] S (fun x hx L=>zCE x (zBD (Ja.2 x hx)) _)
 have g4:=fun S h=>zA3 s.type Sb (d-1) S h (by omega)
 have g5:=fun S=>zCv s.type S
 have g6:=fun S=>zBz s.place Na S
 have g7:=fun S=>zDS s.place S
 have hd: -1<=d-1:=by omega
 have x1:=fun S h k=>zD9 s.op s.names.length s.u3 (fun x hx=>zBG x (ua.2 x hx)) d hd Ta S 0 2 1 h k
 have x2:=fun S h=>zBd s.body Ub hb d hd Ta S 0 1 h
 have x3:=fun S h=>zBd s.els Mb Xb d hd Ta S 0 1 h
 have x4:=fun S h k=>zFY s.arms has Md d hd Ta S 0 3 1 h k
 have ga:¬d<1:=by omega
 refine ADet.intro mixed call152 func152 rfl ?_;simp[ntmps152];refine cq (zEg s _) ?_;simp[h0,ga,ho,fT,fP,fB,fE,fA,fmV];refine cq (zD8 s _) ?_
 rcases(Bool.eq_false_or_eq_true (zFM s.op s.int)).symm with hc|hc
 .have e:s.whole d=false:=by rw[zC];simp[zR,h0,ga,ho,fT,fP,fB,fE,fA,hc]
  simp (config:={maxSteps:=2000000}) [h0,ga,ho,fT,fP,fB,fE,fA,hc,fmV,e]
 simp[h0,ga,ho,fT,fP,fB,fE,fA,hc,fmV];refine cq (g1 _) ?_
 rcases(Bool.eq_false_or_eq_true (fmN s.op s.name)).symm with h1|h1
 .have e:s.whole d=false:=by rw[zC];simp[zR,h0,ga,ho,fT,fP,fB,fE,fA,hc,h1]
  simp (config:={maxSteps:=2000000}) [h0,ga,ho,fT,fP,fB,fE,fA,hc,h1,fmV,e]
 simp[h0,ga,ho,fT,fP,fB,fE,fA,hc,h1,fmV];refine cq (g2 _) ?_
 rcases(Bool.eq_false_or_eq_true (fmS s.op s.u2)).symm with h2|h2
 .have e:s.whole d=false:=by rw[zC];simp[zR,h0,ga,ho,fT,fP,fB,fE,fA,hc,h1,h2]
  simp (config:={maxSteps:=2000000}) [h0,ga,ho,fT,fP,fB,fE,fA,hc,h1,h2,fmV,e]
 by_cases Ic:¬(s.u3.length:Int)=zm s.op s.names.length
 .have fa:((s.u3.length:Int) !=zm s.op s.names.length)=true:=by simp[Ic]
  have e:s.whole d=false:=by rw[zC];simp[zR,h0,ga,ho,fT,fP,fB,fE,fA,hc,h1,h2,fa,Ic]
  simp (config:={maxSteps:=2000000}) [h0,ga,ho,fT,fP,fB,fE,fA,hc,h1,h2,fa,Ic,fmV,e]
 have oa:=Decidable.not_not.1 Ic
 have fa:((s.u3.length:Int) !=zm s.op s.names.length)=false:=by simp[oa]
 simp[h0,ga,ho,fT,fP,fB,fE,fA,hc,h1,h2,fa,fmV];refine cq (g3 _) ?_
 rcases(Bool.eq_false_or_eq_true (zt zBO s.names (zi s.op))).symm with h3|h3
 .have e:s.whole d=false:=by rw[zC];simp[zR,h0,ga,ho,fT,fP,fB,fE,fA,hc,h1,h2,fa,h3]
  simp (config:={maxSteps:=2000000}) [h0,ga,ho,fT,fP,fB,fE,fA,hc,h1,h2,fa,h3,fmV,e]
 simp[h0,ga,ho,fT,fP,fB,fE,fA,hc,h1,h2,fa,h3,fmV];refine zC8 [(1,6),(21,24)] (by kernel_rfl) (by kernel_rfl) (by decide) ?_
 simp (config:={maxSteps:=2000000}) [h0,ga,ho,fT,fP,fB,fE,fA,hc,h1,h2,fa,h3,fmV,wrd d (by omega)]
 refine⟨_,g4 _ (by omega),?_⟩
 rcases(Bool.eq_false_or_eq_true (s.type.whole (d-1)))with ht|ht
 .have e:s.whole d=false:=by rw[zC];simp[zR,h0,ga,ho,fT,fP,fB,fE,fA,hc,h1,h2,fa,h3,ht]
  simp (config:={maxSteps:=2000000}) [h0,ga,ho,fT,fP,fB,fE,fA,hc,h1,h2,fa,h3,ht,fmV,e]
 simp (config:={maxSteps:=2000000}) [h0,ga,ho,fT,fP,fB,fE,fA,hc,h1,h2,fa,h3,ht,fmV]
 refine⟨_,g5 _,?_⟩
 rcases(Bool.eq_false_or_eq_true (zBl s.type)).symm with hz|hz
 .have e:s.whole d=false:=by rw[zC];simp[zR,h0,ga,ho,fT,fP,fB,fE,fA,hc,h1,h2,fa,h3,ht,hz]
  simp (config:={maxSteps:=2000000}) [h0,ga,ho,fT,fP,fB,fE,fA,hc,h1,h2,fa,h3,ht,hz,fmV,e]
 simp (config:={maxSteps:=2000000}) [h0,ga,ho,fT,fP,fB,fE,fA,hc,h1,h2,fa,h3,ht,hz,fmV]
 refine⟨_,g6 _,?_⟩
 rcases(Bool.eq_false_or_eq_true (s.place.whole))with hw|hw
 .have e:s.whole d=false:=by rw[zC];simp[zR,h0,ga,ho,fT,fP,fB,fE,fA,hc,h1,h2,fa,h3,ht,hz,hw]
  simp (config:={maxSteps:=2000000}) [h0,ga,ho,fT,fP,fB,fE,fA,hc,h1,h2,fa,h3,ht,hz,hw,fmV,e]
 simp (config:={maxSteps:=2000000}) [h0,ga,ho,fT,fP,fB,fE,fA,hc,h1,h2,fa,h3,ht,hz,hw,fmV]
 refine⟨_,g7 _,?_⟩
 rcases(Bool.eq_false_or_eq_true (zJ7 s.place)).symm with hn0|hn0
 .have e:s.whole d=false:=by rw[zC];simp[zR,h0,ga,ho,fT,fP,fB,fE,fA,hc,h1,h2,fa,h3,ht,hz,hw,hn0]
  simp (config:={maxSteps:=2000000}) [h0,ga,ho,fT,fP,fB,fE,fA,hc,h1,h2,fa,h3,ht,hz,hw,hn0,fmV,e]
 rcases(Nat.eq_zero_or_pos s.els.length).symm with le|lez
 .have ie:¬s.els.length=0:=by omega
  have xc:s.els≠ []:=fun e=>ie (by rw[e];rfl)
  have e:s.whole d=false:=by rw[zC];simp[zR,h0,ga,ho,fT,fP,fB,fE,fA,hc,h1,h2,fa,h3,ht,hz,hw,hn0,le,ie,xc]
  simp (config:={maxSteps:=2000000}) [h0,ga,ho,fT,fP,fB,fE,fA,hc,h1,h2,fa,h3,ht,hz,hw,hn0,le,ie,xc,fmV,e]
 have le:¬0<s.els.length:=by omega
 rcases(Nat.eq_zero_or_pos s.arms.length).symm with la|laz
 .have je:¬s.arms.length=0:=by omega
  have yc:s.arms≠ []:=fun e=>je (by rw[e];rfl)
  have e:s.whole d=false:=by rw[zC];simp[zR,h0,ga,ho,fT,fP,fB,fE,fA,hc,h1,h2,fa,h3,ht,hz,hw,hn0,le,la,je,yc]
  simp (config:={maxSteps:=2000000}) [h0,ga,ho,fT,fP,fB,fE,fA,hc,h1,h2,fa,h3,ht,hz,hw,hn0,le,la,je,yc,fmV,e]
 have la:¬0<s.arms.length:=by omega
 have e:s.whole d=(exsB s.op s.u3 d&&(s.body.all (fun t=>t.whole (d-1))&&(s.els.all (fun t=>t.whole (d-1))&&zt (fun a=>a.whole (d-1)) s.arms 6))):=by
  rw[zC];simp only[zR,ho,hc,h1,h2,oa,h3,ht,hz,hw,hn0,fT,fP,fB,fE,fA,lez,laz,decide_true,Bool.true_and,Bool.true_or,Bool.false_or,beq_self_eq_true,h0]
 rw[e];simp (config:={maxSteps:=2000000}) [h0,ga,ho,fT,fP,fB,fE,fA,hc,h1,h2,fa,h3,ht,hz,hw,hn0,le,la,fmV]
 refine cq (x1 _ (by simp[zBS,fmV,fT,fP,fB,fE,fA]) rfl) ?_
 cases k1:exsB s.op s.u3 d with
 |false=>simp[k1]
 |true=>
  simp[k1];refine cq (x2 _ rfl) ?_
  generalize s.body.all (fun t=>t.whole (d-1))=b2
  cases b2 with
  |false=>simp
  |true=>
   simp;refine cq (x3 _ rfl) ?_
   generalize s.els.all (fun t=>t.whole (d-1))=b3
   cases b3 with
   |false=>simp
   |true=>
    simp;refine cq (x4 _ rfl rfl) ?_;simp
theorem zPG(s:St)(wa:StSm s)(Ub:∀x∈s.body,WSC x)(Mb:∀x∈s.els,WSC x)(Md:∀a∈s.arms,∀x∈a.body,WSC x)(d:Int)(S:ASt)(Dc: -1<=d)(Ta:d<=1000)(h0:1<=d)(ho:fmOk s.op=true)
  (fT:zAE s.op=false) (fP:zp s.op=false) (fB:zA1 s.op=false) (fE:zAp s.op=false) (fA:zAq s.op=false):ADet Tryz.prog 152 [stmV s,I d] S (B (s.whole d)) S:=by
 obtain⟨_,hn,Ra,Ja,Sb,Na,ua,hb,Xb,ee,Pd,Ie,has,Zf⟩:=wa
 have Pj:zi s.op<=6:=by unfold zi;split<;>omega
 have g1:=fun S=>fnNC s.op s.name hn S
 have g2:=fun S=>fnSC s.op s.u2 Ra S
 have g3:=fun S=>zB5 zBO s.names (zi s.op) (by omega) 51 [] [] S (fun x hx L=>zCE x (zBD (Ja.2 x hx)) _)
 have g4:=fun S h=>zA3 s.type Sb (d-1) S h (by omega)
 have g5:=fun S=>zCv s.type S
 have g6:=fun S=>zBz s.place Na S
 have g7:=fun S=>zDS s.place S
 have hd: -1<=d-1:=by omega
 have x1:=fun S h k=>zD9 s.op s.names.length s.u3 (fun x hx=>zBG x (ua.2 x hx)) d hd Ta S 0 2 1 h k
 have x2:=fun S h=>zBd s.body Ub hb d hd Ta S 0 1 h
 have x3:=fun S h=>zBd s.els Mb Xb d hd Ta S 0 1 h
 have x4:=fun S h k=>zFY s.arms has Md d hd Ta S 0 3 1 h k
 have ga:¬d<1:=by omega
 refine ADet.intro mixed call152 func152 rfl ?_;simp[ntmps152];refine cq (zEg s _) ?_;simp[h0,ga,ho,fT,fP,fB,fE,fA,fmV];refine cq (zD8 s _) ?_
 rcases(Bool.eq_false_or_eq_true (zFM s.op s.int)).symm with hc|hc
 .have e:s.whole d=false:=by rw[zC];simp[zR,h0,ga,ho,fT,fP,fB,fE,fA,hc]
  simp (config:={maxSteps:=2000000}) [h0,ga,ho,fT,fP,fB,fE,fA,hc,fmV,e]
 simp[h0,ga,ho,fT,fP,fB,fE,fA,hc,fmV];refine cq (g1 _) ?_
 rcases(Bool.eq_false_or_eq_true (fmN s.op s.name)).symm with h1|h1
 .have e:s.whole d=false:=by rw[zC];simp[zR,h0,ga,ho,fT,fP,fB,fE,fA,hc,h1]
  simp (config:={maxSteps:=2000000}) [h0,ga,ho,fT,fP,fB,fE,fA,hc,h1,fmV,e]
 simp[h0,ga,ho,fT,fP,fB,fE,fA,hc,h1,fmV];refine cq (g2 _) ?_
 rcases(Bool.eq_false_or_eq_true (fmS s.op s.u2)).symm with h2|h2
 .have e:s.whole d=false:=by rw[zC];simp[zR,h0,ga,ho,fT,fP,fB,fE,fA,hc,h1,h2]
  simp (config:={maxSteps:=2000000}) [h0,ga,ho,fT,fP,fB,fE,fA,hc,h1,h2,fmV,e]
 by_cases Ic:¬(s.u3.length:Int)=zm s.op s.names.length
 .have fa:((s.u3.length:Int) !=zm s.op s.names.length)=true:=by simp[Ic]
  have e:s.whole d=false:=by rw[zC];simp[zR,h0,ga,ho,fT,fP,fB,fE,fA,hc,h1,h2,fa,Ic]
  simp (config:={maxSteps:=2000000}) [h0,ga,ho,fT,fP,fB,fE,fA,hc,h1,h2,fa,Ic,fmV,e]
 have oa:=Decidable.not_not.1 Ic
 have fa:((s.u3.length:Int) !=zm s.op s.names.length)=false:=by simp[oa]
 simp[h0,ga,ho,fT,fP,fB,fE,fA,hc,h1,h2,fa,fmV];refine cq (g3 _) ?_
 rcases(Bool.eq_false_or_eq_true (zt zBO s.names (zi s.op))).symm with h3|h3
 .have e:s.whole d=false:=by rw[zC];simp[zR,h0,ga,ho,fT,fP,fB,fE,fA,hc,h1,h2,fa,h3]
  simp (config:={maxSteps:=2000000}) [h0,ga,ho,fT,fP,fB,fE,fA,hc,h1,h2,fa,h3,fmV,e]
 simp[h0,ga,ho,fT,fP,fB,fE,fA,hc,h1,h2,fa,h3,fmV];refine zC8 [(1,6),(21,24)] (by kernel_rfl) (by kernel_rfl) (by decide) ?_
 simp (config:={maxSteps:=2000000}) [h0,ga,ho,fT,fP,fB,fE,fA,hc,h1,h2,fa,h3,fmV,wrd d (by omega)]
 refine⟨_,g4 _ (by omega),?_⟩
 rcases(Bool.eq_false_or_eq_true (s.type.whole (d-1)))with ht|ht
 .have e:s.whole d=false:=by rw[zC];simp[zR,h0,ga,ho,fT,fP,fB,fE,fA,hc,h1,h2,fa,h3,ht]
  simp (config:={maxSteps:=2000000}) [h0,ga,ho,fT,fP,fB,fE,fA,hc,h1,h2,fa,h3,ht,fmV,e]
 simp (config:={maxSteps:=2000000}) [h0,ga,ho,fT,fP,fB,fE,fA,hc,h1,h2,fa,h3,ht,fmV]
 refine⟨_,g5 _,?_⟩
 rcases(Bool.eq_false_or_eq_true (zBl s.type)).symm with hz|hz
 .have e:s.whole d=false:=by rw[zC];simp[zR,h0,ga,ho,fT,fP,fB,fE,fA,hc,h1,h2,fa,h3,ht,hz]
  simp (config:={maxSteps:=2000000}) [h0,ga,ho,fT,fP,fB,fE,fA,hc,h1,h2,fa,h3,ht,hz,fmV,e]
 simp (config:={maxSteps:=2000000}) [h0,ga,ho,fT,fP,fB,fE,fA,hc,h1,h2,fa,h3,ht,hz,fmV]
 refine⟨_,g6 _,?_⟩
 rcases(Bool.eq_false_or_eq_true (s.place.whole))with hw|hw
 .have e:s.whole d=false:=by rw[zC];simp[zR,h0,ga,ho,fT,fP,fB,fE,fA,hc,h1,h2,fa,h3,ht,hz,hw]
  simp (config:={maxSteps:=2000000}) [h0,ga,ho,fT,fP,fB,fE,fA,hc,h1,h2,fa,h3,ht,hz,hw,fmV,e]
 simp (config:={maxSteps:=2000000}) [h0,ga,ho,fT,fP,fB,fE,fA,hc,h1,h2,fa,h3,ht,hz,hw,fmV]
 refine⟨_,g7 _,?_⟩
 rcases(Bool.eq_false_or_eq_true (zJ7 s.place)).symm with hn0|hn0
 .have e:s.whole d=false:=by rw[zC];simp[zR,h0,ga,ho,fT,fP,fB,fE,fA,hc,h1,h2,fa,h3,ht,hz,hw,hn0]
  simp (config:={maxSteps:=2000000}) [h0,ga,ho,fT,fP,fB,fE,fA,hc,h1,h2,fa,h3,ht,hz,hw,hn0,fmV,e]
 rcases(Nat.eq_zero_or_pos s.body.length).symm with lb|lbz
 .have ug:¬s.body.length=0:=by omega
  have ge:s.body≠ []:=fun e=>ug (by rw[e];rfl)
  have e:s.whole d=false:=by rw[zC];simp[zR,h0,ga,ho,fT,fP,fB,fE,fA,hc,h1,h2,fa,h3,ht,hz,hw,hn0,lb,ug,ge]
  simp (config:={maxSteps:=2000000}) [h0,ga,ho,fT,fP,fB,fE,fA,hc,h1,h2,fa,h3,ht,hz,hw,hn0,lb,ug,ge,fmV,e]
 have lb:¬0<s.body.length:=by omega
 rcases(Nat.eq_zero_or_pos s.els.length).symm with le|lez
 .have ie:¬s.els.length=0:=by omega
  have xc:s.els≠ []:=fun e=>ie (by rw[e];rfl)
  have e:s.whole d=false:=by rw[zC];simp[zR,h0,ga,ho,fT,fP,fB,fE,fA,hc,h1,h2,fa,h3,ht,hz,hw,hn0,lb,le,ie,xc]
  simp (config:={maxSteps:=2000000}) [h0,ga,ho,fT,fP,fB,fE,fA,hc,h1,h2,fa,h3,ht,hz,hw,hn0,lb,le,ie,xc,fmV,e]
 have le:¬0<s.els.length:=by omega
 rcases(Nat.eq_zero_or_pos s.arms.length).symm with la|laz
 .have je:¬s.arms.length=0:=by omega
  have yc:s.arms≠ []:=fun e=>je (by rw[e];rfl)
  have e:s.whole d=false:=by rw[zC];simp[zR,h0,ga,ho,fT,fP,fB,fE,fA,hc,h1,h2,fa,h3,ht,hz,hw,hn0,lb,le,la,je,yc]
  simp (config:={maxSteps:=2000000}) [h0,ga,ho,fT,fP,fB,fE,fA,hc,h1,h2,fa,h3,ht,hz,hw,hn0,lb,le,la,je,yc,fmV,e]
 have la:¬0<s.arms.length:=by omega
 have e:s.whole d=(exsB s.op s.u3 d&&(s.body.all (fun t=>t.whole (d-1))&&(s.els.all (fun t=>t.whole (d-1))&&zt (fun a=>a.whole (d-1)) s.arms 6))):=by
  rw[zC];simp only[zR,ho,hc,h1,h2,oa,h3,ht,hz,hw,hn0,fT,fP,fB,fE,fA,lbz,lez,laz,decide_true,Bool.true_and,Bool.true_or,Bool.false_or,beq_self_eq_true,h0]
 rw[e];simp (config:={maxSteps:=2000000}) [h0,ga,ho,fT,fP,fB,fE,fA,hc,h1,h2,fa,h3,ht,hz,hw,hn0,lb,le,la,fmV]
 refine cq (x1 _ (by simp[zBS,fmV,fT,fP,fB,fE,fA]) rfl) ?_
 cases k1:exsB s.op s.u3 d with
 |false=>simp[k1]
 |true=>
  simp[k1];refine cq (x2 _ rfl) ?_
  generalize s.body.all (fun t=>t.whole (d-1))=b2
  cases b2 with
  |false=>simp
  |true=>
   simp;refine cq (x3 _ rfl) ?_
   generalize s.els.all (fun t=>t.whole (d-1))=b3
   cases b3 with
   |false=>simp
   |true=>
    simp;refine cq (x4 _ rfl rfl) ?_;simp
end Go.Proofs.YtdflkegnmmkkoaaGreatDoor
