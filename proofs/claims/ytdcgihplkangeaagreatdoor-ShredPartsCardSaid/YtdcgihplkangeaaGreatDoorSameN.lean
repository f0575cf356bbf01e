/- The walk of the document's SameInts at two slices of the same numbers, for a seat without the packages of bits. -/
import Derived.Test.YtdcgihplkangeaaGreatDoorMErr
import Derived.Test.YtdcgihplkangeaaGreatDoorMPlain
import Derived.BigQuiet
import Derived.Test.YtdcgihplkangeaaGreatDoorSamV
import Derived.Test.YtdcgihplkangeaaGreatDoorColC
import Derived.Test.YtdcgihplkangeaaGreatDoorMRow
import Derived.Deep.DeepCutAuto
namespace Go.Proofs.YtdcgihplkangeaaGreatDoor
set_option maxHeartbeats 1000000
set_option linter.unusedVariables false
open Go Go.RowKit Go.ChangeShapes
set_option maxRecDepth 100000 in
theorem sameInts_same (v u:Value) (L:List Int) (w:World) (hv:IsInts w v L) (hu:IsInts w u L) (h2:L.length ≤ 1000000) :
  Calls Tryz.prog 25 #[v,u] w fun e w'=>e = .returned (.bool true) ∧ Below w.heap.size w w':=by
 obtain ⟨a2,c2,rfl⟩:=hv.form
 obtain ⟨a3,c3,rfl⟩:=hu.form
 go_enter Tryz.func25,Tryz.ntmps25
 go_wp2_with fail
 go_loopw [5] (fun i wr=>∃ k:Nat,k ≤ L.length ∧ i = .int .i64 k ∧ Below w.heap.size w wr) (fun i _=>L.length - (intOf i).toNat)
 case atStart=>exact ⟨0,Nat.zero_le _,rfl,Below.refl _ _⟩
 case round =>
  obtain ⟨k,hk,rfl,hb⟩:=hrel
  have hJ2:=hv.below hb (Nat.le_refl _)
  have hJ3:=hu.below hb (Nat.le_refl _)
  by_cases hlt:k < L.length
  ·obtain ⟨g2,o2,rfl,_,_,e2⟩:=hJ2.at (by omega)
   obtain ⟨g3,o3,rfl,_,_,e3⟩:=hJ3.at (by omega)
   have v2:=e2 k L[k] (List.getElem?_eq_getElem hlt)
   have v3:=e3 k L[k] (List.getElem?_eq_getElem hlt)
   generalize L[k] = x at *
   have hin:((k:Nat):Int) < (L.length:Int):=by omega
   clear e2 e3 hJ2 hJ3 hv hu
   go_wp2_with fail
   go_quiet (fail)
   go_wp2_with fail
   go_roundw
   case rel=>exact ⟨k + 1,by omega,by go_num,below_drewN hb _⟩
   case measure=>simp [intOf];omega
  ·go_wp2_with fail
   go_ret
   exact ⟨rfl,hb⟩
end Go.Proofs.YtdcgihplkangeaaGreatDoor
/- The walk of the document's SameColumn at two columns that are the same (without the packages of bits). -/
namespace Go.Proofs.YtdcgihplkangeaaGreatDoor
set_option maxHeartbeats 4000000
set_option linter.unusedVariables false
open Go Go.RowKit Go.ChangeShapes
set_option maxRecDepth 100000 in
theorem sameColN (c:Col) (v u:Value) (w:World) (hv:IsCol w v c) (hu:IsCol w u c) (h1:c.rep.length ≤ 1000000) (h2:c.df.length ≤ 1000000) (h3:c.vals.length ≤ maxLen) :
  Calls Tryz.prog 15 #[v,u] w fun e w'=>e = .returned (.bool true) ∧ Below w.heap.size w w':=by
 obtain ⟨a,b,d,rfl,ha,hb,hd⟩:=hv
 obtain ⟨a',b',d',rfl,ha',hb',hd'⟩:=hu
 have H1:=Lib.hid (fun (w1:World) (h:Below w.heap.size w w1)=>sameInts_same a a' c.rep w1 (ha.below h (Nat.le_refl _)) (ha'.below h (Nat.le_refl _)) h1)
 have H2:=Lib.hid (fun (w1:World) (h:Below w.heap.size w w1)=>sameInts_same b b' c.df w1 (hb.below h (Nat.le_refl _)) (hb'.below h (Nat.le_refl _)) h2)
 have H3:=Lib.hid (fun (w1:World) (h:Below w.heap.size w w1)=>sameValues_any d d' c.vals c.vals w1 (hd.below h (Nat.le_refl _)) (hd'.below h (Nat.le_refl _)) h3 h3)
 have hs:sameB c.vals c.vals = true:=(sameB_iff _ _).2 rfl
 rw [hs] at H3
 clear ha hb hd ha' hb' hd' h1 h2 h3 hs
 unfold colA
 go_enter Tryz.func15,Tryz.ntmps15
 go_upto_region 1 with fail
 obtain ⟨rA,rB,hbw,hz⟩:=rows2 (w:=w) (A:=.cells #[.int .i64 c.id,a,b,d] 27) (B:=.cells #[.int .i64 c.id,a',b',d'] 27) (Below.refl _ _)
 have RA:=Lib.hid rA;have RB:=Lib.hid rB;have Hbw:=Lib.hid hbw
 clear rA rB hbw hz
 generalize ((w.alloc (.cells #[.int .i64 c.id,a,b,d] 27)).alloc (.cells #[.int .i64 c.id,a',b',d'] 27)) = w0 at *
 have cA:=rowc RA.out;have fA:=rowf RA.out;have cB:=rowc RB.out;have fB:=rowf RB.out
 go_wp2_with fail
 refine (H1.out _ Hbw.out).mono ?_;rintro e w1 ⟨rfl,hb1⟩
 clear cA fA cB fB
 replace RA:=Lib.hid (row_keep hb1 RA.out);replace RB:=Lib.hid (row_keep hb1 RB.out);replace Hbw:=Lib.hid (Hbw.out.trans (hb1.mono Hbw.out.size))
 clear hb1
 have cA:=rowc RA.out;have fA:=rowf RA.out;have cB:=rowc RB.out;have fB:=rowf RB.out
 go_wp2_with fail
 refine (H2.out _ Hbw.out).mono ?_;rintro e w2 ⟨rfl,hb1⟩
 clear cA fA cB fB
 replace RA:=Lib.hid (row_keep hb1 RA.out);replace RB:=Lib.hid (row_keep hb1 RB.out);replace Hbw:=Lib.hid (Hbw.out.trans (hb1.mono Hbw.out.size))
 clear hb1
 have cA:=rowc RA.out;have fA:=rowf RA.out;have cB:=rowc RB.out;have fB:=rowf RB.out
 go_wp2_with fail
 refine (H3.out _ Hbw.out).mono ?_;rintro e w3 ⟨rfl,hb1⟩
 replace Hbw:=Lib.hid (Hbw.out.trans (hb1.mono Hbw.out.size))
 clear hb1
 go_wp2_with fail
 go_ret
 exact ⟨rfl,Hbw.out⟩
end Go.Proofs.YtdcgihplkangeaaGreatDoor
