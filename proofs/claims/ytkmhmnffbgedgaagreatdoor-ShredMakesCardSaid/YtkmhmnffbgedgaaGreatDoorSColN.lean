/- The walk of the document's SameColumn at two columns that are the same (without the packages of bits). -/
import Derived.Test.YtkmhmnffbgedgaaGreatDoorSameN
import Derived.Test.YtkmhmnffbgedgaaGreatDoorSamV
import Derived.Test.YtkmhmnffbgedgaaGreatDoorColC
import Derived.Test.YtkmhmnffbgedgaaGreatDoorMRow
import Derived.Deep.DeepCutAuto
namespace Go.Proofs.YtkmhmnffbgedgaaGreatDoor
set_option maxHeartbeats 4000000
set_option linter.unusedVariables false
open Go Go.RowKit Go.ChangeShapes
set_option maxRecDepth 100000 in
theorem sameColN (c:Col) (v u:Value) (w:World) (hv:IsCol w v c) (hu:IsCol w u c) (h1:c.rep.length ≤ 1000000) (h2:c.df.length ≤ 1000000) (h3:c.vals.length ≤ maxLen) :
  Calls Tryz.prog 28 #[v,u] w fun e w'=>e = .returned (.bool true) ∧ Below w.heap.size w w':=by
 obtain ⟨a,b,d,rfl,ha,hb,hd⟩:=hv
 obtain ⟨a',b',d',rfl,ha',hb',hd'⟩:=hu
 have H1:=Lib.hid (fun (w1:World) (h:Below w.heap.size w w1)=>sameInts_same a a' c.rep w1 (ha.below h (Nat.le_refl _)) (ha'.below h (Nat.le_refl _)) h1)
 have H2:=Lib.hid (fun (w1:World) (h:Below w.heap.size w w1)=>sameInts_same b b' c.df w1 (hb.below h (Nat.le_refl _)) (hb'.below h (Nat.le_refl _)) h2)
 have H3:=Lib.hid (fun (w1:World) (h:Below w.heap.size w w1)=>sameValues_any d d' c.vals c.vals w1 (hd.below h (Nat.le_refl _)) (hd'.below h (Nat.le_refl _)) h3 h3)
 have hs:sameB c.vals c.vals = true:=(sameB_iff _ _).2 rfl
 rw [hs] at H3
 clear ha hb hd ha' hb' hd' h1 h2 h3 hs
 unfold colA
 go_enter Tryz.func28,Tryz.ntmps28
 go_upto_region 1 with fail
 obtain ⟨rA,rB,hbw,hz⟩:=rows2 (w:=w) (A:=.cells #[.int .i64 c.id,a,b,d] 51) (B:=.cells #[.int .i64 c.id,a',b',d'] 51) (Below.refl _ _)
 have RA:=Lib.hid rA;have RB:=Lib.hid rB;have Hbw:=Lib.hid hbw
 clear rA rB hbw hz
 generalize ((w.alloc (.cells #[.int .i64 c.id,a,b,d] 51)).alloc (.cells #[.int .i64 c.id,a',b',d'] 51)) = w0 at *
 have cA:=rowc RA.out;have fA:=rowf RA.out;have cB:=rowc RB.out;have fB:=rowf RB.out
 go_wp2_with fail
 refine (H1.out _ Hbw.out).mono ?_;rintro e w1 ⟨rfl,hb1⟩
 clear cA fA cB fB
 replace RA:=Lib.hid (row_keep hb1 RA.out);replace RB:=Lib.hid (row_keep hb1 RB.out);replace Hbw:=Lib.hid (Hbw.out.trans (hb1.mono Hbw.out.size))
 clear hb1
 have cA:=rowc RA.out;have fA:=rowf RA.out;have cB:=rowc RB.out;have fB:=rowf RB.out
 go_wp2_with fail
 refine (H2.out _ Hbw.out).mono ?_;rintro e w2 ⟨rfl,hb1⟩
 clear cA fA cB fB
 replace RA:=Lib.hid (row_keep hb1 RA.out);replace RB:=Lib.hid (row_keep hb1 RB.out);replace Hbw:=Lib.hid (Hbw.out.trans (hb1.mono Hbw.out.size))
 clear hb1
 have cA:=rowc RA.out;have fA:=rowf RA.out;have cB:=rowc RB.out;have fB:=rowf RB.out
 go_wp2_with fail
 refine (H3.out _ Hbw.out).mono ?_;rintro e w3 ⟨rfl,hb1⟩
 replace Hbw:=Lib.hid (Hbw.out.trans (hb1.mono Hbw.out.size))
 clear hb1
 go_wp2_with fail
 go_ret
 exact ⟨rfl,Hbw.out⟩
end Go.Proofs.YtkmhmnffbgedgaaGreatDoor
