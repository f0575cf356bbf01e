/- Merged texts: BitsW1, BitsW2, BitsL1, BitsW3, BitsW4, BitsW5, BitsW6, BitsW7, Bits64. -/
import Derived.Test.YtkmhmnffbgedgaaGreatDoorMWire
import Derived.Test.YtkmhmnffbgedgaaGreatDoorMPlain
import Derived.StillTailTactics
import Derived.Lib.Builder
import Derived.Test.YtkmhmnffbgedgaaGreatDoorMErr
import Derived.Lib.BitFns
import Derived.Test.YtkmhmnffbgedgaaGreatDoorShelf
import Derived.Test.YtkmhmnffbgedgaaGreatDoorRows
/- The walks of bitrun's Put, Text, pack. -/
namespace Go.Proofs.YtkmhmnffbgedgaaGreatDoor
set_option maxHeartbeats 1000000
open Go Go.RowKit
end Go.Proofs.YtkmhmnffbgedgaaGreatDoor
/- Lists of numbers that came in; the walks of bitrun.check, pack, Pack. -/
namespace Go.Proofs.YtkmhmnffbgedgaaGreatDoor
set_option maxHeartbeats 1000000
open Go Go.RowKit Go.ChangeShapes
end Go.Proofs.YtkmhmnffbgedgaaGreatDoor
/- The walk of the statement BitsWidth. -/
namespace Go.Proofs.YtkmhmnffbgedgaaGreatDoor
set_option maxHeartbeats 1000000
open Go Go.RowKit Go.ChangeShapes
end Go.Proofs.YtkmhmnffbgedgaaGreatDoor
/- The document's numbers in bits: the walks of Bare, Fine, BitsError, Wide, bitsOf, PackOf; and of the statement's faulted, ints. -/
namespace Go.Proofs.YtkmhmnffbgedgaaGreatDoor
set_option maxHeartbeats 1000000
open Go Go.RowKit Go.ChangeShapes
def faultV (c p:Int):Value:=.agg #[.int .i64 c,.int .i64 p]
set_option maxRecDepth 100000 in
theorem fine_any (w:World):Calls Tryz.prog 20 #[] w fun e w'=>e = .returned (faultV 0 (-1)) ∧ Below w.heap.size w w':=by
 go_enter Tryz.func20,Tryz.ntmps20
 go_wp2_with fail
 refine bodyPost_ret (v:=faultV 0 (-1)) (results_cell_row Tryz.results20 _ _ w.heap.size 30 _ (0,0) _ rfl (heap_alloc_new _ _) Tryz.underlying30 rfl (by kernel_rfl)) rfl ⟨rfl,(Below.refl _ _).alloc (Nat.le_refl _) _⟩
set_option maxRecDepth 100000 in
theorem bare_any (c:Int) (w:World):Calls Tryz.prog 18 #[.int .i64 c] w fun e w'=>e = .returned (faultV c (-1)) ∧ Below w.heap.size w w':=by
 go_enter Tryz.func18,Tryz.ntmps18
 go_wp2_with fail
 refine bodyPost_ret (v:=faultV c (-1)) (results_cell_row Tryz.results18 _ _ w.heap.size 30 _ (0,0) _ rfl (heap_alloc_new _ _) Tryz.underlying30 rfl (by kernel_rfl)) rfl ⟨rfl,(Below.refl _ _).alloc (Nat.le_refl _) _⟩
end Go.Proofs.YtkmhmnffbgedgaaGreatDoor
/- The document's numbers in bits: the walks of Wide, bitsOf, PackOf; and of the statement's faulted, ints. -/
namespace Go.Proofs.YtkmhmnffbgedgaaGreatDoor
set_option maxHeartbeats 1000000
open Go Go.RowKit Go.ChangeShapes
def ints (l:List Nat):List Int:=l.map fun (n:Nat)=>(n:Int)
end Go.Proofs.YtkmhmnffbgedgaaGreatDoor
/- The walks of the document's PackOf and of the statement's faulted, ints. -/
namespace Go.Proofs.YtkmhmnffbgedgaaGreatDoor
set_option maxHeartbeats 1000000
open Go Go.RowKit Go.ChangeShapes
set_option maxRecDepth 100000 in
theorem faulted_any {w:World} {adr:Nat → Addr} {e:GErr} {v:Value} (c p:Int) (hE:ErrEnv w adr) (he:IsErr w adr e v) :
  Calls Tryz.prog 11 #[v,faultV c p] w fun r w'=>r = .returned (.bool (e.code == c && (e.code == 0 || e.at' == p))) ∧ Below w.heap.size w w':=by
 unfold faultV
 have hb0:Below w.heap.size w (w.alloc (.cells #[.int .i64 c,.int .i64 p] 30)):=(Below.refl _ _).alloc (Nat.le_refl _) _
 have fin:∀ w1,Below (w.alloc (.cells #[.int .i64 c,.int .i64 p] 30)).heap.size (w.alloc (.cells #[.int .i64 c,.int .i64 p] 30)) w1 →
   Below w.heap.size w w1 ∧ w1.cell? ⟨w.heap.size,0,none⟩ = some (.int .i64 c) ∧ w1.cell? ⟨w.heap.size,1,none⟩ = some (.int .i64 p):=by
  intro w1 hb
  refine ⟨hb0.trans (hb.mono (by simp)),?_,?_⟩
  ·rw [hb.cell (p:=⟨w.heap.size,0,none⟩) (by simp),World.cell?_alloc_at _ _ _ _ rfl];rfl
  ·rw [hb.cell (p:=⟨w.heap.size,1,none⟩) (by simp),World.cell?_alloc_at _ _ _ _ rfl];rfl
 have hcode:=code_any (hE.below hb0) (he.below hb0)
 generalize hk:e.code = k at *
 generalize hq:e.at' = q at *
 clear hk hq hE he
 by_cases h1:k = c
 ·have d1:(k == c) = true:=by simpa using h1
  rw [d1]
  by_cases h2:k = 0
  ·have d2:(k == 0) = true:=by simpa using h2
   rw [d2]
   clear h1 h2
   go_enter Tryz.func11,Tryz.ntmps11
   go_wp2_with fail
   refine hcode.mono ?_;rintro r w1 ⟨rfl,hb1⟩
   obtain ⟨hb,c0,c1⟩:=fin w1 hb1
   clear fin hcode hb0 hb1
   go_wp2_with fail
   go_ret
   exact ⟨rfl,hb⟩
  ·have d2:(k == 0) = false:=by simpa using h2
   rw [d2]
   clear h1 h2
   go_enter Tryz.func11,Tryz.ntmps11
   go_wp2_with fail
   refine hcode.mono ?_;rintro r w1 ⟨rfl,hb1⟩
   obtain ⟨hb,c0,c1⟩:=fin w1 hb1
   clear fin hcode hb0 hb1
   go_wp2_with fail
   go_ret
   exact ⟨ret_of (by simp),hb⟩
 ·have d1:(k == c) = false:=by simpa using h1
  rw [d1]
  clear h1
  go_enter Tryz.func11,Tryz.ntmps11
  go_wp2_with fail
  refine hcode.mono ?_;rintro r w1 ⟨rfl,hb1⟩
  obtain ⟨hb,c0,c1⟩:=fin w1 hb1
  clear fin hcode hb0 hb1
  go_wp2_with fail
  go_ret
  exact ⟨rfl,hb⟩
end Go.Proofs.YtkmhmnffbgedgaaGreatDoor
/- The walks of bitrun's Get, size, Unpack, and of the document's UnpackOf. -/
namespace Go.Proofs.YtkmhmnffbgedgaaGreatDoor
set_option maxHeartbeats 1000000
open Go Go.RowKit Go.ChangeShapes
end Go.Proofs.YtkmhmnffbgedgaaGreatDoor
/- The walk of the document's UnpackOf; Unpack's errors. -/
namespace Go.Proofs.YtkmhmnffbgedgaaGreatDoor
set_option maxHeartbeats 1000000
set_option linter.unusedVariables false
open Go Go.RowKit Go.ChangeShapes
end Go.Proofs.YtkmhmnffbgedgaaGreatDoor
/- The document's numbers in up to 64 bits: the walks of bitsOf, PackOf once more. -/
namespace Go.Proofs.YtkmhmnffbgedgaaGreatDoor
set_option maxHeartbeats 1000000
set_option linter.unusedVariables false
open Go Go.RowKit Go.ChangeShapes
end Go.Proofs.YtkmhmnffbgedgaaGreatDoor
