/- Merged texts: EncW2, Build, EncW3, Enc2, Enc3, EncW4, BuildS, EncW5. -/
import Derived.Test.YtkmhmnffbgedgaaDoorMVal
import Derived.Deep.QuietTactic
import Derived.BigQuiet
import Derived.Test.YtkmhmnffbgedgaaDoorMBits
import Derived.Test.YtkmhmnffbgedgaaDoorMPlain
import Derived.Lib.Builder
import Derived.Lib.AppendStr
import Derived.Lib.OthersKept
import Derived.Test.YtkmhmnffbgedgaaDoorShelf
import Derived.StillTailTactics
import Derived.RegionTactic
import Derived.Test.YtkmhmnffbgedgaaDoorMErr
import Derived.Test.YtkmhmnffbgedgaaDoorSamV
import Derived.Lib.Hide
import Derived.Lib.UnsafeStr
import Derived.Test.YtkmhmnffbgedgaaDoorMWire
/- The walks of enc's Less, known, size and the document's LessOf, IsValue. -/
namespace Go.Proofs.YtkmhmnffbgedgaaDoor
set_option linter.unusedVariables false
open Go Go.RowKit Go.ChangeShapes
end Go.Proofs.YtkmhmnffbgedgaaDoor
/- strings.Builder of a call's own: what is written stands behind what was there. -/
namespace Go.Proofs.YtkmhmnffbgedgaaDoor
set_option linter.unusedVariables false
open Go Go.RowKit
theorem others_of_below {e:TypeId} {b:Option Nat} {w w':World} (h:Below w.heap.size w w'):Lib.OthersKept e b w w':=by
 intro k o hk _ _
 rw [h.block k (Array.getElem?_eq_some_iff.1 hk).1]
 exact hk
end Go.Proofs.YtkmhmnffbgedgaaDoor
/- The walks of enc's known, Check, size, plain at numbers, Plain; the closed fact four. -/
namespace Go.Proofs.YtkmhmnffbgedgaaDoor
set_option linter.unusedVariables false
open Go Go.RowKit Go.ChangeShapes
end Go.Proofs.YtkmhmnffbgedgaaDoor
/- Chapter 3 in plain Lean: values, plain, as bytes; what the bytes tell. -/
namespace Go.Proofs.YtkmhmnffbgedgaaDoor
open Go
def badAt (kind:Int):List Val → Nat → Option Nat
 | [],_=>none
 | x :: l,i=>if okB kind x then badAt kind l (i + 1) else some i
theorem badAt_none (kind:Int):∀ (l:List Val) (i:Nat),badAt kind l i = none ↔ ∀ x ∈ l,OkP kind x
 | [],_=>by simp [badAt]
 | a :: l,i=>by
  have ih:=badAt_none kind l (i + 1)
  unfold badAt
  by_cases h:okB kind a = true
  ·rw [if_pos h,ih]
   simp [(okB_iff kind a).1 h]
  ·rw [if_neg h]
   simp only [reduceCtorEq,List.mem_cons,forall_eq_or_imp,false_iff,not_and]
   intro h'
   exact absurd ((okB_iff kind a).2 h') h
theorem badAt_some (kind:Int):∀ (l:List Val) (i j:Nat),badAt kind l i = some j → ∃ q x,j = i + q ∧ l[q]? = some x ∧ ¬ OkP kind x ∧ ∀ p y,p < q → l[p]? = some y → OkP kind y
 | [],_,_,h=>by simp [badAt] at h
 | a :: l,i,j,h=>by
  unfold badAt at h
  by_cases ha:okB kind a = true
  ·rw [if_pos ha] at h
   obtain ⟨q,x,h1,h2,h3,h4⟩:=badAt_some kind l (i + 1) j h
   refine ⟨q + 1,x,by omega,by simpa using h2,h3,fun p y hp hy=>?_⟩
   cases p with
   | zero=>simp at hy;subst hy;exact (okB_iff kind a).1 ha
   | succ p=>exact h4 p y (by omega) (by simpa using hy)
  ·rw [if_neg ha] at h
   obtain rfl:=Option.some.inj h
   exact ⟨0,a,rfl,rfl,fun h'=>ha ((okB_iff kind a).2 h'),fun p y hp=>by omega⟩
end Go.Proofs.YtkmhmnffbgedgaaDoor
/- Chapter 3 in plain Lean: numbers of whole bytes, one behind the other. -/
namespace Go.Proofs.YtkmhmnffbgedgaaDoor
open Go
end Go.Proofs.YtkmhmnffbgedgaaDoor
/- The walks of the statements' values, small, and of SameValues; enc's Check and Plain where something is wrong. -/
namespace Go.Proofs.YtkmhmnffbgedgaaDoor
set_option linter.unusedVariables false
open Go Go.RowKit Go.ChangeShapes
end Go.Proofs.YtkmhmnffbgedgaaDoor
/- (*strings.Builder).String at whatever builder: what other blocks hold stays. -/
namespace Go.Proofs.YtkmhmnffbgedgaaDoor
set_option linter.unusedVariables false
open Go Go.RowKit
end Go.Proofs.YtkmhmnffbgedgaaDoor
/- The walks of enc's known, Check, plain, Plain at whatever values. -/
namespace Go.Proofs.YtkmhmnffbgedgaaDoor
set_option linter.unusedVariables false
open Go Go.RowKit Go.ChangeShapes
end Go.Proofs.YtkmhmnffbgedgaaDoor
