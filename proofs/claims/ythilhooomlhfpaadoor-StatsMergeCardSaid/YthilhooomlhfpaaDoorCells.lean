/- Whole rows of cells: laid, loaded, stored. -/
import Derived.Test.YthilhooomlhfpaaDoorK
namespace Go.Proofs.YthilhooomlhfpaaDoor
open Go Go.RowKit

/-- a new variable of whatever type, its zero value known by its table's row -/
theorem wpList_alloc_row {P : Program} {w : World} {ops : Array Oper} {rest : List Oper} {o : Oper} {a : Act} {Q : Exit → Act → World → Prop} (hg : o.guard = none) (ty : TypeId) (ho : o.op = .alloc ty)
    (i : TypeInfo) (z : Value) (zc : Array Value) (hi : P.info? ty = some i) (hz : i.zero = some z) (hzc : z.cells = zc)
    (h : wpList P ops Q rest (a.put o.dst (.pointer (some ⟨w.heap.size, 0, none⟩))) (w.alloc (.cells zc ty))) : wpList P ops Q (o :: rest) a w := by
  subst hzc
  refine wpList_plain hg fun K hK => ?_
  unfold Oper.wp execOp
  simp only [ho, Instr.alloc, zeroValue, typeInfo, newVar, newRow, newObj]
  simp [hi, hz, Result.andThen]
  exact hK _ _ h

/-- a whole row stored -/
theorem wpList_store_row {P : Program} {w : World} {ops : Array Oper} {rest : List Oper} {o : Oper} {a : Act} {Q : Exit → Act → World → Prop} (hgd : o.guard = none) (hd : o.dst = none) (ty : TypeId) (x v : Operand) (ho : o.op = .store ty x v)
    (g : Nat) (hx : a.eval x = .pointer (some ⟨g, 0, none⟩)) (old cells : Array Value) (hv : a.eval v = .agg cells) (t : TypeId) (hg : w.heap[g]? = some (.cells old t (0, 0)))
    (hi : (P.info? ty).map (·.size) = some cells.size) (hs : old.size = cells.size) (h1 : cells.all (·.oneCell') = true)
    (h : wpList P ops Q rest a (w.setRow g cells)) : wpList P ops Q (o :: rest) a w := by
  refine wpList_plain hgd fun K hK => ?_
  have hr := run_storeVar_row (P := P) w g t ty old cells hg hi hs h1
  unfold Oper.wp execOp
  simp [ho, hx, hv, Instr.storeAt, Instr.sureAddr, hr, Result.andThen, Oper.upon_skip, Act.put, hd]
  exact hK _ _ h

theorem below_setRow {B g : Nat} {a w : World} (h : Below B a w) (hg : B ≤ g) (cs : Array Value) : Below B a (w.setRow g cs) :=
  h.trans ⟨rfl, rfl, rfl, by simp, fun k hk => setRow_other w g k cs (by omega)⟩

end Go.Proofs.YthilhooomlhfpaaDoor
