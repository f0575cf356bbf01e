/- A struct stored into a block that is known, at an operation of a region. -/
import Derived.Test.YtdcgihplkangeaaGreatDoorMRow
import Derived.Test.YtdcgihplkangeaaGreatDoorRegE
namespace Go.Proofs.YtdcgihplkangeaaGreatDoor
set_option linter.unusedVariables false
open Go Go.RowKit Go.ChangeShapes
theorem wp_store_part {P:Program} {w:World} {op:Oper} {a:Act} {K:Act → World → Prop} {Q:Exit → Act → World → Prop} (hgd:op.guard = none) (ty:TypeId) (x y:Operand) (ho:op.op = .store ty x y)
  (g o:Nat) (cs:Array Value) (t:TypeId) (vs:Array Value) (hx:a.eval x = .pointer (some ⟨g,o,none⟩)) (hy:a.eval y = .agg vs) (hg:w.heap[g]? = some (.cells cs t (0,0)))
  (hi:(P.info? ty).map (·.size) = some vs.size) (h1:vs.all (·.oneCell') = true) (hsz:o + vs.size ≤ cs.size) (cs':Array Value) (hcs:setPart cs o vs.toList = cs')
  (h:∀ w',w'.heap[g]? = some (.cells cs' t (0,0)) → (∀ i,i ≠ g → w'.heap[i]? = w.heap[i]?) → Below g w w' → w'.heap.size = w.heap.size → K (a.put op.dst undef) w'):Oper.wp P op a w K Q:=by
 refine wp_store_mid ty x y ho g o vs hx hy ?_ hi h1 ?_
 ·intro j hj
  exact ⟨by rw [rowc hg,Array.getElem?_eq_getElem (by omega)];rfl,rowf hg _⟩
 ·obtain ⟨b1,b2,b3,b4⟩:=setCells_row g t vs.toList w cs o hg
  rw [setPart_eq _ _ _ (by simpa using hsz),hcs] at b1
  exact h _ b1 b2 b3 b4
end Go.Proofs.YtdcgihplkangeaaGreatDoor
