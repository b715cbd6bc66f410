/- A part of the proof. The statement is proved in the claim's last text. -/
import Derived.Test.YtfiohepfohhibaaDoorPNPr
set_option linter.unusedVariables false
set_option linter.unusedSimpArgs false
set_option maxRecDepth 100000
set_option maxHeartbeats 32000000
namespace Go.Proofs.YtfiohepfohhibaaDoor
open Go.RowKit
attribute [local simp] List.replicate List.range List.range.loop resA resOne retA AV.cuts AV.cut AObj.cut trim wkR wkT wkL wkN wkNR wkNL wkM wkMR wkML virtL virtO virt_get markL markO markR_get rowA awpI_nil awpI_cons List.forall_mem_cons List.contains_cons List.contains_nil List.find? nextD_eq awpD_nil awpD_cons LCp LCl refL
theorem strong_0_1 {l : List Tok} {s s1 : RS} {e : Ex} (hs : s.at_ ≤ l.length) (hb : s.bad = false) (ih : RdC 61 [I (1 : Nat)] l s s1 (exV e)) (hs1 : s1.at_ ≤ l.length) (hb1 : s1.bad = true) : RdC 61 [I (0 : Nat)] l s s1 (exV e):=RdC.intro fun S d i hR=>by
 have ho:=(hR.upd s hs).o
 have ho1:=(hR.upd s1 hs1).o
 refine ADet.intro mixed Tryd.call61 Tryd.func61 rfl ?_
 simp [Tryd.ntmps61]
 refine ⟨_,_,(placeRW s).at hR hs _,?_⟩
 simp [ho,hb]
 refine ⟨_,_,ih.at hR hs _,?_⟩
 simp
 refine awp_loop (fun _ : Unit=>True) (fun _=>([.ptr (d + 1) i 0,I 0,.any,.any,.ptr 0 0 0,.any,.ptr 0 1 0] ++ List.replicate 103 .any)) (fun _=>[.cells [.any,.any,.any,.any,.any,.any,.any,.any] 46,.cells [U e.op,I e.int,Sg e.name,Sg e.second,Sg e.place.name,.p (strs e.place.path),.p (.sl 8 (e.args.map Ex.enc)),I e.pos] 46] :: set2 S d i (rdO l s1)) (fun _=>0) () trivial ?_ ?_ ?_
 ·simp
 ·simp
 rintro ⟨⟩ -
 simp
 refine awp_draw [] (by kernel_rfl) (by kernel_rfl) ?_
 simp [ho1,hb1]
theorem strong_0_2 {l : List Tok} {s s1 : RS} {e : Ex} (hs : s.at_ ≤ l.length) (hb : s.bad = false) (ih : RdC 61 [I (1 : Nat)] l s s1 (exV e)) (hs1 : s1.at_ ≤ l.length) (hb1 : s1.bad = false) (hlt1 : ¬ (s1.at_ : Int) < (l.length : Int)) : RdC 61 [I (0 : Nat)] l s s1 (exV e):=RdC.intro fun S d i hR=>by
 have ho:=(hR.upd s hs).o
 have ho1:=(hR.upd s1 hs1).o
 refine ADet.intro mixed Tryd.call61 Tryd.func61 rfl ?_
 simp [Tryd.ntmps61]
 refine ⟨_,_,(placeRW s).at hR hs _,?_⟩
 simp [ho,hb]
 refine ⟨_,_,ih.at hR hs _,?_⟩
 simp
 refine awp_loop (fun _ : Unit=>True) (fun _=>([.ptr (d + 1) i 0,I 0,.any,.any,.ptr 0 0 0,.any,.ptr 0 1 0] ++ List.replicate 103 .any)) (fun _=>[.cells [.any,.any,.any,.any,.any,.any,.any,.any] 46,.cells [U e.op,I e.int,Sg e.name,Sg e.second,Sg e.place.name,.p (strs e.place.path),.p (.sl 8 (e.args.map Ex.enc)),I e.pos] 46] :: set2 S d i (rdO l s1)) (fun _=>0) () trivial ?_ ?_ ?_
 ·simp
 ·simp
 rintro ⟨⟩ -
 simp
 refine awp_draw [] (by kernel_rfl) (by kernel_rfl) ?_
 simp [ho1,hb1,hlt1]
theorem strong_0_3 {l : List Tok} {s s1 : RS} {e : Ex} (hs : s.at_ ≤ l.length) (hb : s.bad = false) (ih : RdC 61 [I (1 : Nat)] l s s1 (exV e)) (hs1 : s1.at_ ≤ l.length) (hb1 : s1.bad = false) (hlt1 : (s1.at_ : Int) < (l.length : Int)) {x : Tok} (hx1 : l[s1.at_]? = some x) (hf : findK x.text (signsK 0) = none) : RdC 61 [I (0 : Nat)] l s s1 (exV e):=RdC.intro fun S d i hR=>by
 have ho:=(hR.upd s hs).o
 have ho1:=(hR.upd s1 hs1).o
 obtain ⟨j,hj⟩:=find_mapK x.text (signsK 0) 0
 rw [hf,Option.map_none] at hj
 refine ADet.intro mixed Tryd.call61 Tryd.func61 rfl ?_
 simp [Tryd.ntmps61]
 refine ⟨_,_,(placeRW s).at hR hs _,?_⟩
 simp [ho,hb]
 refine ⟨_,_,ih.at hR hs _,?_⟩
 simp
 refine awp_loop (fun _ : Unit=>True) (fun _=>([.ptr (d + 1) i 0,I 0,.any,.any,.ptr 0 0 0,.any,.ptr 0 1 0] ++ List.replicate 103 .any)) (fun _=>[.cells [.any,.any,.any,.any,.any,.any,.any,.any] 46,.cells [U e.op,I e.int,Sg e.name,Sg e.second,Sg e.place.name,.p (strs e.place.path),.p (.sl 8 (e.args.map Ex.enc)),I e.pos] 46] :: set2 S d i (rdO l s1)) (fun _=>0) () trivial ?_ ?_ ?_
 ·simp
 ·simp
 rintro ⟨⟩ -
 simp
 refine awp_draw [] (by kernel_rfl) (by kernel_rfl) ?_
 simp [ho1,hb1,hlt1]
 refine awp_draw [(5,1),(9,1),(12,1)] (by kernel_rfl) (by kernel_rfl) ?_
 simp [ho1,hb1,hlt1]
 obtain ⟨X,sC⟩:=signsC 0 (by omega) [.cells [.any,.any,.any,.any,.any,.any,.any,.any] 46,.cells [U e.op,I e.int,Sg e.name,Sg e.second,Sg e.place.name,.p (strs e.place.path),.p (.sl 8 (e.args.map Ex.enc)),I e.pos] 46] (set2 S d i (rdO l s1))
 refine ⟨_,_,sC,?_⟩
 simp [ho1,hb1,hlt1,hx1,Tok.enc,mapsK,mapK,hj]
theorem strong_1_1 {l : List Tok} {s s1 : RS} {e : Ex} (hs : s.at_ ≤ l.length) (hb : s.bad = false) (ih : RdC 61 [I (2 : Nat)] l s s1 (exV e)) (hs1 : s1.at_ ≤ l.length) (hb1 : s1.bad = true) : RdC 61 [I (1 : Nat)] l s s1 (exV e):=RdC.intro fun S d i hR=>by
 have ho:=(hR.upd s hs).o
 have ho1:=(hR.upd s1 hs1).o
 refine ADet.intro mixed Tryd.call61 Tryd.func61 rfl ?_
 simp [Tryd.ntmps61]
 refine ⟨_,_,(placeRW s).at hR hs _,?_⟩
 simp [ho,hb]
 refine ⟨_,_,ih.at hR hs _,?_⟩
 simp
 refine awp_loop (fun _ : Unit=>True) (fun _=>([.ptr (d + 1) i 0,I 1,.any,.any,.ptr 0 0 0,.any,.ptr 0 1 0] ++ List.replicate 103 .any)) (fun _=>[.cells [.any,.any,.any,.any,.any,.any,.any,.any] 46,.cells [U e.op,I e.int,Sg e.name,Sg e.second,Sg e.place.name,.p (strs e.place.path),.p (.sl 8 (e.args.map Ex.enc)),I e.pos] 46] :: set2 S d i (rdO l s1)) (fun _=>0) () trivial ?_ ?_ ?_
 ·simp
 ·simp
 rintro ⟨⟩ -
 simp
 refine awp_draw [] (by kernel_rfl) (by kernel_rfl) ?_
 simp [ho1,hb1]
theorem strong_1_2 {l : List Tok} {s s1 : RS} {e : Ex} (hs : s.at_ ≤ l.length) (hb : s.bad = false) (ih : RdC 61 [I (2 : Nat)] l s s1 (exV e)) (hs1 : s1.at_ ≤ l.length) (hb1 : s1.bad = false) (hlt1 : ¬ (s1.at_ : Int) < (l.length : Int)) : RdC 61 [I (1 : Nat)] l s s1 (exV e):=RdC.intro fun S d i hR=>by
 have ho:=(hR.upd s hs).o
 have ho1:=(hR.upd s1 hs1).o
 refine ADet.intro mixed Tryd.call61 Tryd.func61 rfl ?_
 simp [Tryd.ntmps61]
 refine ⟨_,_,(placeRW s).at hR hs _,?_⟩
 simp [ho,hb]
 refine ⟨_,_,ih.at hR hs _,?_⟩
 simp
 refine awp_loop (fun _ : Unit=>True) (fun _=>([.ptr (d + 1) i 0,I 1,.any,.any,.ptr 0 0 0,.any,.ptr 0 1 0] ++ List.replicate 103 .any)) (fun _=>[.cells [.any,.any,.any,.any,.any,.any,.any,.any] 46,.cells [U e.op,I e.int,Sg e.name,Sg e.second,Sg e.place.name,.p (strs e.place.path),.p (.sl 8 (e.args.map Ex.enc)),I e.pos] 46] :: set2 S d i (rdO l s1)) (fun _=>0) () trivial ?_ ?_ ?_
 ·simp
 ·simp
 rintro ⟨⟩ -
 simp
 refine awp_draw [] (by kernel_rfl) (by kernel_rfl) ?_
 simp [ho1,hb1,hlt1]
theorem strong_1_3 {l : List Tok} {s s1 : RS} {e : Ex} (hs : s.at_ ≤ l.length) (hb : s.bad = false) (ih : RdC 61 [I (2 : Nat)] l s s1 (exV e)) (hs1 : s1.at_ ≤ l.length) (hb1 : s1.bad = false) (hlt1 : (s1.at_ : Int) < (l.length : Int)) {x : Tok} (hx1 : l[s1.at_]? = some x) (hf : findK x.text (signsK 1) = none) : RdC 61 [I (1 : Nat)] l s s1 (exV e):=RdC.intro fun S d i hR=>by
 have ho:=(hR.upd s hs).o
 have ho1:=(hR.upd s1 hs1).o
 obtain ⟨j,hj⟩:=find_mapK x.text (signsK 1) 0
 rw [hf,Option.map_none] at hj
 refine ADet.intro mixed Tryd.call61 Tryd.func61 rfl ?_
 simp [Tryd.ntmps61]
 refine ⟨_,_,(placeRW s).at hR hs _,?_⟩
 simp [ho,hb]
 refine ⟨_,_,ih.at hR hs _,?_⟩
 simp
 refine awp_loop (fun _ : Unit=>True) (fun _=>([.ptr (d + 1) i 0,I 1,.any,.any,.ptr 0 0 0,.any,.ptr 0 1 0] ++ List.replicate 103 .any)) (fun _=>[.cells [.any,.any,.any,.any,.any,.any,.any,.any] 46,.cells [U e.op,I e.int,Sg e.name,Sg e.second,Sg e.place.name,.p (strs e.place.path),.p (.sl 8 (e.args.map Ex.enc)),I e.pos] 46] :: set2 S d i (rdO l s1)) (fun _=>0) () trivial ?_ ?_ ?_
 ·simp
 ·simp
 rintro ⟨⟩ -
 simp
 refine awp_draw [] (by kernel_rfl) (by kernel_rfl) ?_
 simp [ho1,hb1,hlt1]
 refine awp_draw [(5,1),(9,1),(12,1)] (by kernel_rfl) (by kernel_rfl) ?_
 simp [ho1,hb1,hlt1]
 obtain ⟨X,sC⟩:=signsC 1 (by omega) [.cells [.any,.any,.any,.any,.any,.any,.any,.any] 46,.cells [U e.op,I e.int,Sg e.name,Sg e.second,Sg e.place.name,.p (strs e.place.path),.p (.sl 8 (e.args.map Ex.enc)),I e.pos] 46] (set2 S d i (rdO l s1))
 refine ⟨_,_,sC,?_⟩
 simp [ho1,hb1,hlt1,hx1,Tok.enc,mapsK,mapK,hj]
theorem strong_2_1 {l : List Tok} {s s1 : RS} {e : Ex} (hs : s.at_ ≤ l.length) (hb : s.bad = false) (hno : isP l s (⟨#[110,111,116]⟩ : ByteArray) 0 = false) (ih : RdC 61 [I (3 : Nat)] l s s1 (exV e)) (hs1 : s1.at_ ≤ l.length) (hb1 : s1.bad = true) : RdC 61 [I (2 : Nat)] l s s1 (exV e):=RdC.intro fun S d i hR=>by
 have ho:=(hR.upd s hs).o
 have ho1:=(hR.upd s1 hs1).o
 have hm : mayP l s (⟨#[110,111,116]⟩ : ByteArray) = s:=by unfold mayP; rw [hno]; rfl
 refine ADet.intro mixed Tryd.call61 Tryd.func61 rfl ?_
 simp [Tryd.ntmps61]
 refine ⟨_,_,(placeRW s).at hR hs _,?_⟩
 simp [ho,hb]
 refine ⟨_,_,(mayW s (⟨#[110,111,116]⟩ : ByteArray)).at hR hs _,?_⟩
 rw [hno,hm]
 simp
 refine ⟨_,_,ih.at hR hs _,?_⟩
 simp
 refine awp_loop (fun _ : Unit=>True) (fun _=>([.ptr (d + 1) i 0,I 2,.any,.any,.ptr 0 0 0,.any,.ptr 0 1 0] ++ List.replicate 103 .any)) (fun _=>[.cells [.any,.any,.any,.any,.any,.any,.any,.any] 46,.cells [U e.op,I e.int,Sg e.name,Sg e.second,Sg e.place.name,.p (strs e.place.path),.p (.sl 8 (e.args.map Ex.enc)),I e.pos] 46] :: set2 S d i (rdO l s1)) (fun _=>0) () trivial ?_ ?_ ?_
 ·simp
 ·simp
 rintro ⟨⟩ -
 simp
 refine awp_draw [] (by kernel_rfl) (by kernel_rfl) ?_
 simp [ho1,hb1]
theorem strong_2_2 {l : List Tok} {s s1 : RS} {e : Ex} (hs : s.at_ ≤ l.length) (hb : s.bad = false) (hno : isP l s (⟨#[110,111,116]⟩ : ByteArray) 0 = false) (ih : RdC 61 [I (3 : Nat)] l s s1 (exV e)) (hs1 : s1.at_ ≤ l.length) (hb1 : s1.bad = false) (hlt1 : ¬ (s1.at_ : Int) < (l.length : Int)) : RdC 61 [I (2 : Nat)] l s s1 (exV e):=RdC.intro fun S d i hR=>by
 have ho:=(hR.upd s hs).o
 have ho1:=(hR.upd s1 hs1).o
 have hm : mayP l s (⟨#[110,111,116]⟩ : ByteArray) = s:=by unfold mayP; rw [hno]; rfl
 refine ADet.intro mixed Tryd.call61 Tryd.func61 rfl ?_
 simp [Tryd.ntmps61]
 refine ⟨_,_,(placeRW s).at hR hs _,?_⟩
 simp [ho,hb]
 refine ⟨_,_,(mayW s (⟨#[110,111,116]⟩ : ByteArray)).at hR hs _,?_⟩
 rw [hno,hm]
 simp
 refine ⟨_,_,ih.at hR hs _,?_⟩
 simp
 refine awp_loop (fun _ : Unit=>True) (fun _=>([.ptr (d + 1) i 0,I 2,.any,.any,.ptr 0 0 0,.any,.ptr 0 1 0] ++ List.replicate 103 .any)) (fun _=>[.cells [.any,.any,.any,.any,.any,.any,.any,.any] 46,.cells [U e.op,I e.int,Sg e.name,Sg e.second,Sg e.place.name,.p (strs e.place.path),.p (.sl 8 (e.args.map Ex.enc)),I e.pos] 46] :: set2 S d i (rdO l s1)) (fun _=>0) () trivial ?_ ?_ ?_
 ·simp
 ·simp
 rintro ⟨⟩ -
 simp
 refine awp_draw [] (by kernel_rfl) (by kernel_rfl) ?_
 simp [ho1,hb1,hlt1]
theorem strong_2_3 {l : List Tok} {s s1 : RS} {e : Ex} (hs : s.at_ ≤ l.length) (hb : s.bad = false) (hno : isP l s (⟨#[110,111,116]⟩ : ByteArray) 0 = false) (ih : RdC 61 [I (3 : Nat)] l s s1 (exV e)) (hs1 : s1.at_ ≤ l.length) (hb1 : s1.bad = false) (hlt1 : (s1.at_ : Int) < (l.length : Int)) {x : Tok} (hx1 : l[s1.at_]? = some x) (hf : findK x.text (signsK 2) = none) : RdC 61 [I (2 : Nat)] l s s1 (exV e):=RdC.intro fun S d i hR=>by
 have ho:=(hR.upd s hs).o
 have ho1:=(hR.upd s1 hs1).o
 have hm : mayP l s (⟨#[110,111,116]⟩ : ByteArray) = s:=by unfold mayP; rw [hno]; rfl
 obtain ⟨j,hj⟩:=find_mapK x.text (signsK 2) 0
 rw [hf,Option.map_none] at hj
 refine ADet.intro mixed Tryd.call61 Tryd.func61 rfl ?_
 simp [Tryd.ntmps61]
 refine ⟨_,_,(placeRW s).at hR hs _,?_⟩
 simp [ho,hb]
 refine ⟨_,_,(mayW s (⟨#[110,111,116]⟩ : ByteArray)).at hR hs _,?_⟩
 rw [hno,hm]
 simp
 refine ⟨_,_,ih.at hR hs _,?_⟩
 simp
 refine awp_loop (fun _ : Unit=>True) (fun _=>([.ptr (d + 1) i 0,I 2,.any,.any,.ptr 0 0 0,.any,.ptr 0 1 0] ++ List.replicate 103 .any)) (fun _=>[.cells [.any,.any,.any,.any,.any,.any,.any,.any] 46,.cells [U e.op,I e.int,Sg e.name,Sg e.second,Sg e.place.name,.p (strs e.place.path),.p (.sl 8 (e.args.map Ex.enc)),I e.pos] 46] :: set2 S d i (rdO l s1)) (fun _=>0) () trivial ?_ ?_ ?_
 ·simp
 ·simp
 rintro ⟨⟩ -
 simp
 refine awp_draw [] (by kernel_rfl) (by kernel_rfl) ?_
 simp [ho1,hb1,hlt1]
 refine awp_draw [(5,1),(9,1),(12,1)] (by kernel_rfl) (by kernel_rfl) ?_
 simp [ho1,hb1,hlt1]
 obtain ⟨X,sC⟩:=signsC 2 (by omega) [.cells [.any,.any,.any,.any,.any,.any,.any,.any] 46,.cells [U e.op,I e.int,Sg e.name,Sg e.second,Sg e.place.name,.p (strs e.place.path),.p (.sl 8 (e.args.map Ex.enc)),I e.pos] 46] (set2 S d i (rdO l s1))
 refine ⟨_,_,sC,?_⟩
 simp [ho1,hb1,hlt1,hx1,Tok.enc,mapsK,mapK,hj]
theorem strong_3_1 {l : List Tok} {s s1 : RS} {e : Ex} (hs : s.at_ ≤ l.length) (hb : s.bad = false) (ih : RdC 61 [I (4 : Nat)] l s s1 (exV e)) (hs1 : s1.at_ ≤ l.length) (hb1 : s1.bad = true) : RdC 61 [I (3 : Nat)] l s s1 (exV e):=RdC.intro fun S d i hR=>by
 have ho:=(hR.upd s hs).o
 have ho1:=(hR.upd s1 hs1).o
 refine ADet.intro mixed Tryd.call61 Tryd.func61 rfl ?_
 simp [Tryd.ntmps61]
 refine ⟨_,_,(placeRW s).at hR hs _,?_⟩
 simp [ho,hb]
 refine ⟨_,_,ih.at hR hs _,?_⟩
 simp
 refine awp_loop (fun _ : Unit=>True) (fun _=>([.ptr (d + 1) i 0,I 3,.any,.any,.ptr 0 0 0,.any,.ptr 0 1 0] ++ List.replicate 103 .any)) (fun _=>[.cells [.any,.any,.any,.any,.any,.any,.any,.any] 46,.cells [U e.op,I e.int,Sg e.name,Sg e.second,Sg e.place.name,.p (strs e.place.path),.p (.sl 8 (e.args.map Ex.enc)),I e.pos] 46] :: set2 S d i (rdO l s1)) (fun _=>0) () trivial ?_ ?_ ?_
 ·simp
 ·simp
 rintro ⟨⟩ -
 simp
 refine awp_draw [] (by kernel_rfl) (by kernel_rfl) ?_
 simp [ho1,hb1]
theorem strong_3_2 {l : List Tok} {s s1 : RS} {e : Ex} (hs : s.at_ ≤ l.length) (hb : s.bad = false) (ih : RdC 61 [I (4 : Nat)] l s s1 (exV e)) (hs1 : s1.at_ ≤ l.length) (hb1 : s1.bad = false) (hlt1 : ¬ (s1.at_ : Int) < (l.length : Int)) : RdC 61 [I (3 : Nat)] l s s1 (exV e):=RdC.intro fun S d i hR=>by
 have ho:=(hR.upd s hs).o
 have ho1:=(hR.upd s1 hs1).o
 refine ADet.intro mixed Tryd.call61 Tryd.func61 rfl ?_
 simp [Tryd.ntmps61]
 refine ⟨_,_,(placeRW s).at hR hs _,?_⟩
 simp [ho,hb]
 refine ⟨_,_,ih.at hR hs _,?_⟩
 simp
 refine awp_loop (fun _ : Unit=>True) (fun _=>([.ptr (d + 1) i 0,I 3,.any,.any,.ptr 0 0 0,.any,.ptr 0 1 0] ++ List.replicate 103 .any)) (fun _=>[.cells [.any,.any,.any,.any,.any,.any,.any,.any] 46,.cells [U e.op,I e.int,Sg e.name,Sg e.second,Sg e.place.name,.p (strs e.place.path),.p (.sl 8 (e.args.map Ex.enc)),I e.pos] 46] :: set2 S d i (rdO l s1)) (fun _=>0) () trivial ?_ ?_ ?_
 ·simp
 ·simp
 rintro ⟨⟩ -
 simp
 refine awp_draw [] (by kernel_rfl) (by kernel_rfl) ?_
 simp [ho1,hb1,hlt1]
theorem strong_3_3 {l : List Tok} {s s1 : RS} {e : Ex} (hs : s.at_ ≤ l.length) (hb : s.bad = false) (ih : RdC 61 [I (4 : Nat)] l s s1 (exV e)) (hs1 : s1.at_ ≤ l.length) (hb1 : s1.bad = false) (hlt1 : (s1.at_ : Int) < (l.length : Int)) {x : Tok} (hx1 : l[s1.at_]? = some x) (hf : findK x.text (signsK 3) = none) : RdC 61 [I (3 : Nat)] l s s1 (exV e):=RdC.intro fun S d i hR=>by
 have ho:=(hR.upd s hs).o
 have ho1:=(hR.upd s1 hs1).o
 obtain ⟨j,hj⟩:=find_mapK x.text (signsK 3) 0
 rw [hf,Option.map_none] at hj
 refine ADet.intro mixed Tryd.call61 Tryd.func61 rfl ?_
 simp [Tryd.ntmps61]
 refine ⟨_,_,(placeRW s).at hR hs _,?_⟩
 simp [ho,hb]
 refine ⟨_,_,ih.at hR hs _,?_⟩
 simp
 refine awp_loop (fun _ : Unit=>True) (fun _=>([.ptr (d + 1) i 0,I 3,.any,.any,.ptr 0 0 0,.any,.ptr 0 1 0] ++ List.replicate 103 .any)) (fun _=>[.cells [.any,.any,.any,.any,.any,.any,.any,.any] 46,.cells [U e.op,I e.int,Sg e.name,Sg e.second,Sg e.place.name,.p (strs e.place.path),.p (.sl 8 (e.args.map Ex.enc)),I e.pos] 46] :: set2 S d i (rdO l s1)) (fun _=>0) () trivial ?_ ?_ ?_
 ·simp
 ·simp
 rintro ⟨⟩ -
 simp
 refine awp_draw [] (by kernel_rfl) (by kernel_rfl) ?_
 simp [ho1,hb1,hlt1]
 refine awp_draw [(5,1),(9,1),(12,1)] (by kernel_rfl) (by kernel_rfl) ?_
 simp [ho1,hb1,hlt1]
 obtain ⟨X,sC⟩:=signsC 3 (by omega) [.cells [.any,.any,.any,.any,.any,.any,.any,.any] 46,.cells [U e.op,I e.int,Sg e.name,Sg e.second,Sg e.place.name,.p (strs e.place.path),.p (.sl 8 (e.args.map Ex.enc)),I e.pos] 46] (set2 S d i (rdO l s1))
 refine ⟨_,_,sC,?_⟩
 simp [ho1,hb1,hlt1,hx1,Tok.enc,mapsK,mapK,hj]
theorem strong_4_1 {l : List Tok} {s s1 : RS} {e : Ex} (hs : s.at_ ≤ l.length) (hb : s.bad = false) (ih : RdC 61 [I (5 : Nat)] l s s1 (exV e)) (hs1 : s1.at_ ≤ l.length) (hb1 : s1.bad = true) : RdC 61 [I (4 : Nat)] l s s1 (exV e):=RdC.intro fun S d i hR=>by
 have ho:=(hR.upd s hs).o
 have ho1:=(hR.upd s1 hs1).o
 refine ADet.intro mixed Tryd.call61 Tryd.func61 rfl ?_
 simp [Tryd.ntmps61]
 refine ⟨_,_,(placeRW s).at hR hs _,?_⟩
 simp [ho,hb]
 refine ⟨_,_,ih.at hR hs _,?_⟩
 simp
 refine awp_loop (fun _ : Unit=>True) (fun _=>([.ptr (d + 1) i 0,I 4,.any,.any,.ptr 0 0 0,.any,.ptr 0 1 0] ++ List.replicate 103 .any)) (fun _=>[.cells [.any,.any,.any,.any,.any,.any,.any,.any] 46,.cells [U e.op,I e.int,Sg e.name,Sg e.second,Sg e.place.name,.p (strs e.place.path),.p (.sl 8 (e.args.map Ex.enc)),I e.pos] 46] :: set2 S d i (rdO l s1)) (fun _=>0) () trivial ?_ ?_ ?_
 ·simp
 ·simp
 rintro ⟨⟩ -
 simp
 refine awp_draw [] (by kernel_rfl) (by kernel_rfl) ?_
 simp [ho1,hb1]
theorem strong_4_2 {l : List Tok} {s s1 : RS} {e : Ex} (hs : s.at_ ≤ l.length) (hb : s.bad = false) (ih : RdC 61 [I (5 : Nat)] l s s1 (exV e)) (hs1 : s1.at_ ≤ l.length) (hb1 : s1.bad = false) (hlt1 : ¬ (s1.at_ : Int) < (l.length : Int)) : RdC 61 [I (4 : Nat)] l s s1 (exV e):=RdC.intro fun S d i hR=>by
 have ho:=(hR.upd s hs).o
 have ho1:=(hR.upd s1 hs1).o
 refine ADet.intro mixed Tryd.call61 Tryd.func61 rfl ?_
 simp [Tryd.ntmps61]
 refine ⟨_,_,(placeRW s).at hR hs _,?_⟩
 simp [ho,hb]
 refine ⟨_,_,ih.at hR hs _,?_⟩
 simp
 refine awp_loop (fun _ : Unit=>True) (fun _=>([.ptr (d + 1) i 0,I 4,.any,.any,.ptr 0 0 0,.any,.ptr 0 1 0] ++ List.replicate 103 .any)) (fun _=>[.cells [.any,.any,.any,.any,.any,.any,.any,.any] 46,.cells [U e.op,I e.int,Sg e.name,Sg e.second,Sg e.place.name,.p (strs e.place.path),.p (.sl 8 (e.args.map Ex.enc)),I e.pos] 46] :: set2 S d i (rdO l s1)) (fun _=>0) () trivial ?_ ?_ ?_
 ·simp
 ·simp
 rintro ⟨⟩ -
 simp
 refine awp_draw [] (by kernel_rfl) (by kernel_rfl) ?_
 simp [ho1,hb1,hlt1]
theorem strong_4_3 {l : List Tok} {s s1 : RS} {e : Ex} (hs : s.at_ ≤ l.length) (hb : s.bad = false) (ih : RdC 61 [I (5 : Nat)] l s s1 (exV e)) (hs1 : s1.at_ ≤ l.length) (hb1 : s1.bad = false) (hlt1 : (s1.at_ : Int) < (l.length : Int)) {x : Tok} (hx1 : l[s1.at_]? = some x) (hf : findK x.text (signsK 4) = none) : RdC 61 [I (4 : Nat)] l s s1 (exV e):=RdC.intro fun S d i hR=>by
 have ho:=(hR.upd s hs).o
 have ho1:=(hR.upd s1 hs1).o
 obtain ⟨j,hj⟩:=find_mapK x.text (signsK 4) 0
 rw [hf,Option.map_none] at hj
 refine ADet.intro mixed Tryd.call61 Tryd.func61 rfl ?_
 simp [Tryd.ntmps61]
 refine ⟨_,_,(placeRW s).at hR hs _,?_⟩
 simp [ho,hb]
 refine ⟨_,_,ih.at hR hs _,?_⟩
 simp
 refine awp_loop (fun _ : Unit=>True) (fun _=>([.ptr (d + 1) i 0,I 4,.any,.any,.ptr 0 0 0,.any,.ptr 0 1 0] ++ List.replicate 103 .any)) (fun _=>[.cells [.any,.any,.any,.any,.any,.any,.any,.any] 46,.cells [U e.op,I e.int,Sg e.name,Sg e.second,Sg e.place.name,.p (strs e.place.path),.p (.sl 8 (e.args.map Ex.enc)),I e.pos] 46] :: set2 S d i (rdO l s1)) (fun _=>0) () trivial ?_ ?_ ?_
 ·simp
 ·simp
 rintro ⟨⟩ -
 simp
 refine awp_draw [] (by kernel_rfl) (by kernel_rfl) ?_
 simp [ho1,hb1,hlt1]
 refine awp_draw [(5,1),(9,1),(12,1)] (by kernel_rfl) (by kernel_rfl) ?_
 simp [ho1,hb1,hlt1]
 obtain ⟨X,sC⟩:=signsC 4 (by omega) [.cells [.any,.any,.any,.any,.any,.any,.any,.any] 46,.cells [U e.op,I e.int,Sg e.name,Sg e.second,Sg e.place.name,.p (strs e.place.path),.p (.sl 8 (e.args.map Ex.enc)),I e.pos] 46] (set2 S d i (rdO l s1))
 refine ⟨_,_,sC,?_⟩
 simp [ho1,hb1,hlt1,hx1,Tok.enc,mapsK,mapK,hj]
theorem strong_5_1 {l : List Tok} {s s1 : RS} {e : Ex} (hs : s.at_ ≤ l.length) (hb : s.bad = false) (ih : RdC 61 [I (6 : Nat)] l s s1 (exV e)) (hs1 : s1.at_ ≤ l.length) (hb1 : s1.bad = true) : RdC 61 [I (5 : Nat)] l s s1 (exV e):=RdC.intro fun S d i hR=>by
 have ho:=(hR.upd s hs).o
 have ho1:=(hR.upd s1 hs1).o
 refine ADet.intro mixed Tryd.call61 Tryd.func61 rfl ?_
 simp [Tryd.ntmps61]
 refine ⟨_,_,(placeRW s).at hR hs _,?_⟩
 simp [ho,hb]
 refine ⟨_,_,ih.at hR hs _,?_⟩
 simp
 refine awp_loop (fun _ : Unit=>True) (fun _=>([.ptr (d + 1) i 0,I 5,.any,.any,.ptr 0 0 0,.any,.ptr 0 1 0] ++ List.replicate 103 .any)) (fun _=>[.cells [.any,.any,.any,.any,.any,.any,.any,.any] 46,.cells [U e.op,I e.int,Sg e.name,Sg e.second,Sg e.place.name,.p (strs e.place.path),.p (.sl 8 (e.args.map Ex.enc)),I e.pos] 46] :: set2 S d i (rdO l s1)) (fun _=>0) () trivial ?_ ?_ ?_
 ·simp
 ·simp
 rintro ⟨⟩ -
 simp
 refine awp_draw [] (by kernel_rfl) (by kernel_rfl) ?_
 simp [ho1,hb1]
theorem strong_5_2 {l : List Tok} {s s1 : RS} {e : Ex} (hs : s.at_ ≤ l.length) (hb : s.bad = false) (ih : RdC 61 [I (6 : Nat)] l s s1 (exV e)) (hs1 : s1.at_ ≤ l.length) (hb1 : s1.bad = false) (hlt1 : ¬ (s1.at_ : Int) < (l.length : Int)) : RdC 61 [I (5 : Nat)] l s s1 (exV e):=RdC.intro fun S d i hR=>by
 have ho:=(hR.upd s hs).o
 have ho1:=(hR.upd s1 hs1).o
 refine ADet.intro mixed Tryd.call61 Tryd.func61 rfl ?_
 simp [Tryd.ntmps61]
 refine ⟨_,_,(placeRW s).at hR hs _,?_⟩
 simp [ho,hb]
 refine ⟨_,_,ih.at hR hs _,?_⟩
 simp
 refine awp_loop (fun _ : Unit=>True) (fun _=>([.ptr (d + 1) i 0,I 5,.any,.any,.ptr 0 0 0,.any,.ptr 0 1 0] ++ List.replicate 103 .any)) (fun _=>[.cells [.any,.any,.any,.any,.any,.any,.any,.any] 46,.cells [U e.op,I e.int,Sg e.name,Sg e.second,Sg e.place.name,.p (strs e.place.path),.p (.sl 8 (e.args.map Ex.enc)),I e.pos] 46] :: set2 S d i (rdO l s1)) (fun _=>0) () trivial ?_ ?_ ?_
 ·simp
 ·simp
 rintro ⟨⟩ -
 simp
 refine awp_draw [] (by kernel_rfl) (by kernel_rfl) ?_
 simp [ho1,hb1,hlt1]
theorem strong_5_3 {l : List Tok} {s s1 : RS} {e : Ex} (hs : s.at_ ≤ l.length) (hb : s.bad = false) (ih : RdC 61 [I (6 : Nat)] l s s1 (exV e)) (hs1 : s1.at_ ≤ l.length) (hb1 : s1.bad = false) (hlt1 : (s1.at_ : Int) < (l.length : Int)) {x : Tok} (hx1 : l[s1.at_]? = some x) (hf : findK x.text (signsK 5) = none) : RdC 61 [I (5 : Nat)] l s s1 (exV e):=RdC.intro fun S d i hR=>by
 have ho:=(hR.upd s hs).o
 have ho1:=(hR.upd s1 hs1).o
 obtain ⟨j,hj⟩:=find_mapK x.text (signsK 5) 0
 rw [hf,Option.map_none] at hj
 refine ADet.intro mixed Tryd.call61 Tryd.func61 rfl ?_
 simp [Tryd.ntmps61]
 refine ⟨_,_,(placeRW s).at hR hs _,?_⟩
 simp [ho,hb]
 refine ⟨_,_,ih.at hR hs _,?_⟩
 simp
 refine awp_loop (fun _ : Unit=>True) (fun _=>([.ptr (d + 1) i 0,I 5,.any,.any,.ptr 0 0 0,.any,.ptr 0 1 0] ++ List.replicate 103 .any)) (fun _=>[.cells [.any,.any,.any,.any,.any,.any,.any,.any] 46,.cells [U e.op,I e.int,Sg e.name,Sg e.second,Sg e.place.name,.p (strs e.place.path),.p (.sl 8 (e.args.map Ex.enc)),I e.pos] 46] :: set2 S d i (rdO l s1)) (fun _=>0) () trivial ?_ ?_ ?_
 ·simp
 ·simp
 rintro ⟨⟩ -
 simp
 refine awp_draw [] (by kernel_rfl) (by kernel_rfl) ?_
 simp [ho1,hb1,hlt1]
 refine awp_draw [(5,1),(9,1),(12,1)] (by kernel_rfl) (by kernel_rfl) ?_
 simp [ho1,hb1,hlt1]
 obtain ⟨X,sC⟩:=signsC 5 (by omega) [.cells [.any,.any,.any,.any,.any,.any,.any,.any] 46,.cells [U e.op,I e.int,Sg e.name,Sg e.second,Sg e.place.name,.p (strs e.place.path),.p (.sl 8 (e.args.map Ex.enc)),I e.pos] 46] (set2 S d i (rdO l s1))
 refine ⟨_,_,sC,?_⟩
 simp [ho1,hb1,hlt1,hx1,Tok.enc,mapsK,mapK,hj]
end Go.Proofs.YtfiohepfohhibaaDoor
namespace Go.Proofs.YtfiohepfohhibaaDoor
open Go.RowKit
attribute [local simp] List.replicate List.range List.range.loop resA resOne retA
theorem strong_bad {l : List Tok} {s : RS} (hs : s.at_ ≤ l.length) (k : Nat) (hb : s.bad = true) : RdC 61 [I k] l s s exZ:=RdC.intro fun S d i hR=>by
 have ho:=(hR.upd s hs).o
 refine ADet.intro mixed Tryd.call61 Tryd.func61 rfl ?_
 simp [Tryd.ntmps61]
 refine ⟨_,_,(placeRW s).at hR hs _,?_⟩
 simp [ho,hb]
theorem strong_6 {l : List Tok} {s s1 : RS} {e : Ex} (hs : s.at_ ≤ l.length) (hb : s.bad = false) (hno : isP l s (⟨#[45]⟩ : ByteArray) 0 = false) (ih : RdC 77 [] l s s1 (exV e)) : RdC 61 [I (6 : Nat)] l s s1 (exV e):=RdC.intro fun S d i hR=>by
 have ho:=(hR.upd s hs).o
 have hm : mayP l s (⟨#[45]⟩ : ByteArray) = s:=by unfold mayP; rw [hno]; rfl
 refine ADet.intro mixed Tryd.call61 Tryd.func61 rfl ?_
 simp [Tryd.ntmps61]
 refine ⟨_,_,(placeRW s).at hR hs _,?_⟩
 simp [ho,hb]
 refine ⟨_,_,(mayW s (⟨#[45]⟩ : ByteArray)).at hR hs _,?_⟩
 rw [hno,hm]
 simp
 refine ⟨_,_,ih.at hR hs _,?_⟩
 simp
theorem strongW {n : Nat} (hn : n ≤ 100000) {l : List Tok} : ∀ (j : Nat),j ≤ 6 → ∀ {s : RS} {e : Ex} {s' : RS},s.at_ ≤ l.length → strongP l n j s = some (e,s') → RdC 61 [I (6 - j : Nat)] l s s' (exV e) ∧ s'.at_ ≤ l.length
 | 0,hj,s,e,s',hs,h=>by
  unfold strongP at h
  cases hb : s.bad with
  | true =>
   rw [hb,if_pos rfl] at h
   cases h
   exact ⟨(strong_bad hs 6 hb).less exZ_le,hs⟩
  | false =>
   rw [hb,if_neg (by simp)] at h
   cases hno : isP l s (⟨#[45]⟩ : ByteArray) 0 with
   | true=>rw [hno,if_pos rfl] at h; cases h
   | false =>
    rw [hno,if_neg (by simp)] at h
    exact ⟨strong_6 hs hb hno (simpleW hn hs h),simpleP_le hs h⟩
 | j + 1,hj,s,e,s',hs,h=>by
  unfold strongP at h
  cases hb : s.bad with
  | true =>
   rw [hb,if_pos rfl] at h
   cases h
   exact ⟨(strong_bad hs _ hb).less exZ_le,hs⟩
  | false =>
   rw [hb,if_neg (by simp)] at h
   split at h
   ·cases h
   rename_i hnot
   split at h
   ·cases h
   rename_i e1 s1 h1
   obtain ⟨ih,hs1⟩:=strongW hn j (by omega) hs h1
   have key : s1 = s' ∧ e1 = e ∧ (s1.bad = true ∨ (s1.bad = false ∧ ¬ (s1.at_ : Int) < (l.length : Int)) ∨ (s1.bad = false ∧ (s1.at_ : Int) < (l.length : Int) ∧ ∃ x,l[s1.at_]? = some x ∧ findK x.text (signsK (5 - j)) = none)):=by
    cases hb1 : s1.bad with
    | true =>
     rw [hb1,if_pos rfl] at h
     cases h
     exact ⟨rfl,rfl,.inl rfl⟩
    | false =>
     rw [hb1,if_neg (by simp)] at h
     cases hx : l[s1.at_]? with
     | none =>
      rw [hx] at h
      cases h
      have:=List.getElem?_eq_none_iff.1 hx
      exact ⟨rfl,rfl,.inr (.inl ⟨rfl,by omega⟩)⟩
     | some x =>
      rw [hx] at h
      dsimp only at h
      have hlt:=(List.getElem?_eq_some_iff.1 hx).1
      cases hf : findK x.text (signsK (5 - j)) with
      | some k=>rw [hf] at h; simp at h
      | none =>
       rw [hf] at h
       simp at h
       obtain ⟨rfl,rfl⟩:=h
       exact ⟨rfl,rfl,.inr (.inr ⟨rfl,by omega,x,rfl,hf⟩)⟩
   obtain ⟨rfl,rfl,hend⟩:=key
   refine ⟨?_,hs1⟩
   rcases (by omega : j = 0 ∨ j = 1 ∨ j = 2 ∨ j = 3 ∨ j = 4 ∨ j = 5) with rfl | rfl | rfl | rfl | rfl | rfl
   ·rcases hend with g | ⟨g,g1⟩ | ⟨g,g1,x,g2,g3⟩
    ·exact strong_5_1 hs hb ih hs1 g
    ·exact strong_5_2 hs hb ih hs1 g g1
    ·exact strong_5_3 hs hb ih hs1 g g1 g2 g3
   ·rcases hend with g | ⟨g,g1⟩ | ⟨g,g1,x,g2,g3⟩
    ·exact strong_4_1 hs hb ih hs1 g
    ·exact strong_4_2 hs hb ih hs1 g g1
    ·exact strong_4_3 hs hb ih hs1 g g1 g2 g3
   ·rcases hend with g | ⟨g,g1⟩ | ⟨g,g1,x,g2,g3⟩
    ·exact strong_3_1 hs hb ih hs1 g
    ·exact strong_3_2 hs hb ih hs1 g g1
    ·exact strong_3_3 hs hb ih hs1 g g1 g2 g3
   ·rcases hend with g | ⟨g,g1⟩ | ⟨g,g1,x,g2,g3⟩
    ·exact strong_2_1 hs hb (by simpa using hnot) ih hs1 g
    ·exact strong_2_2 hs hb (by simpa using hnot) ih hs1 g g1
    ·exact strong_2_3 hs hb (by simpa using hnot) ih hs1 g g1 g2 g3
   ·rcases hend with g | ⟨g,g1⟩ | ⟨g,g1,x,g2,g3⟩
    ·exact strong_1_1 hs hb ih hs1 g
    ·exact strong_1_2 hs hb ih hs1 g g1
    ·exact strong_1_3 hs hb ih hs1 g g1 g2 g3
   ·rcases hend with g | ⟨g,g1⟩ | ⟨g,g1,x,g2,g3⟩
    ·exact strong_0_1 hs hb ih hs1 g
    ·exact strong_0_2 hs hb ih hs1 g g1
    ·exact strong_0_3 hs hb ih hs1 g g1 g2 g3
theorem exprRW {n : Nat} (hn : n ≤ 100000) {l : List Tok} {s : RS} {e : Ex} {s' : RS} (hs : s.at_ ≤ l.length) (h : strongP l n 6 s = some (e,s')) : RdC 47 [] l s s' (exV e):=by
 have ih:=(strongW hn 6 (by omega) hs h).1
 refine RdC.intro fun S d i hR=>?_
 refine ADet.intro mixed Tryd.call47 Tryd.func47 rfl ?_
 simp [Tryd.ntmps47]
 refine ⟨_,_,ih.at hR hs _,?_⟩
 simp
end Go.Proofs.YtfiohepfohhibaaDoor
