/- The walk of the document's SameInts at two slices of the same numbers, for a seat without the packages of bits. -/
import Derived.Test.YtkmhmnffbgedgaaGreatDoorMErr
import Derived.Test.YtkmhmnffbgedgaaGreatDoorMPlain
import Derived.BigQuiet
namespace Go.Proofs.YtkmhmnffbgedgaaGreatDoor
set_option maxHeartbeats 1000000
set_option linter.unusedVariables false
open Go Go.RowKit Go.ChangeShapes
set_option maxRecDepth 100000 in
theorem sameInts_same (v u:Value) (L:List Int) (w:World) (hv:IsInts w v L) (hu:IsInts w u L) (h2:L.length ≤ 1000000) :
  Calls Tryz.prog 14 #[v,u] w fun e w'=>e = .returned (.bool true) ∧ Below w.heap.size w w':=by
 obtain ⟨a2,c2,rfl⟩:=hv.form
 obtain ⟨a3,c3,rfl⟩:=hu.form
 go_enter Tryz.func14,Tryz.ntmps14
 go_wp2_with fail
 go_loopw [5] (fun i wr=>∃ k:Nat,k ≤ L.length ∧ i = .int .i64 k ∧ Below w.heap.size w wr) (fun i _=>L.length - (intOf i).toNat)
 case atStart=>exact ⟨0,Nat.zero_le _,rfl,Below.refl _ _⟩
 case round =>
  obtain ⟨k,hk,rfl,hb⟩:=hrel
  have hJ2:=hv.below hb (Nat.le_refl _)
  have hJ3:=hu.below hb (Nat.le_refl _)
  by_cases hlt:k < L.length
  ·obtain ⟨g2,o2,rfl,_,_,e2⟩:=hJ2.at (by omega)
   obtain ⟨g3,o3,rfl,_,_,e3⟩:=hJ3.at (by omega)
   have v2:=e2 k L[k] (List.getElem?_eq_getElem hlt)
   have v3:=e3 k L[k] (List.getElem?_eq_getElem hlt)
   generalize L[k] = x at *
   have hin:((k:Nat):Int) < (L.length:Int):=by omega
   clear e2 e3 hJ2 hJ3 hv hu
   go_wp2_with fail
   go_quiet (fail)
   go_wp2_with fail
   go_roundw
   case rel=>exact ⟨k + 1,by omega,by go_num,below_drewN hb _⟩
   case measure=>simp [intOf];omega
  ·go_wp2_with fail
   go_ret
   exact ⟨rfl,hb⟩
end Go.Proofs.YtkmhmnffbgedgaaGreatDoor
