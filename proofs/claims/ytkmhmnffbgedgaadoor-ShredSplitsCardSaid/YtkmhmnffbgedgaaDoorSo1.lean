/- The walk of the document's OwnColumns. -/
import Derived.Test.YtkmhmnffbgedgaaDoorMOw
import Derived.Test.YtkmhmnffbgedgaaDoorColC
import Derived.Test.YtkmhmnffbgedgaaDoorTv2
namespace Go.Proofs.YtkmhmnffbgedgaaDoor
set_option linter.unusedVariables false
set_option linter.unusedSimpArgs false
open Go Go.RowKit Go.ChangeShapes
abbrev ColV:=Col × Value × Value × Value
def OwnP (B:Nat) (w:World) (p:ColV):Prop:=w.ownsRow B 3 1 p.2.1 p.1.rep.length (p.1.rep.map iV) ∧ w.ownsRow B 3 1 p.2.2.1 p.1.df.length (p.1.df.map iV) ∧ w.ownsRow B 61 3 p.2.2.2 p.1.vals.length (p.1.vals.flatMap valCells)
theorem own_base0 {w:World} {B B' n s:Nat} {e:TypeId} {v:Value} {xs:List Value} (h:w.ownsRow B e s v n xs) (hB:B' ≤ B):w.ownsRow B' e s v n xs:=by
 refine ⟨h.1,?_⟩
 rcases h.2 with h0 | ⟨g,cap,cur,hv,h1,h2,h3⟩
 ·exact .inl h0
 ·exact .inr ⟨g,cap,cur,hv,Nat.le_trans hB h1,h2,h3⟩
theorem own_tag {w w':World} {B n s:Nat} {e:TypeId} {v:Value} {xs:List Value} (h:w.ownsRow B e s v n xs) (hk:∀ (b:Nat) (cs:Array Value) (fr:Nat × Nat),w.heap[b]? = some (.cells cs e fr) → w'.heap[b]? = some (.cells cs e fr)):w'.ownsRow B e s v n xs:=by
 refine ⟨h.1,?_⟩
 rcases h.2 with h0 | ⟨g,cap,cur,hv,h1,h2,h3⟩
 ·exact .inl h0
 ·exact .inr ⟨g,cap,cur,hv,h1,hk _ _ _ h2,h3⟩
theorem OwnP.tag {B:Nat} {w w':World} {p:ColV} (h:OwnP B w p) (hk:∀ (b:Nat) (cs:Array Value) (e:TypeId) (fr:Nat × Nat),e ≠ 32 → w.heap[b]? = some (.cells cs e fr) → w'.heap[b]? = some (.cells cs e fr)):OwnP B w' p :=
 ⟨own_tag h.1 fun b cs fr=>hk b cs _ fr (by decide),own_tag h.2.1 fun b cs fr=>hk b cs _ fr (by decide),own_tag h.2.2 fun b cs fr=>hk b cs _ fr (by decide)⟩
theorem OwnP.below {B:Nat} {w w':World} {p:ColV} (h:OwnP B w p) (hb:Below w.heap.size w w'):OwnP B w' p:=h.tag fun b cs e fr _ hr=>row_keep hb hr
theorem OwnP.base {B B':Nat} {w:World} {p:ColV} (h:OwnP B w p) (hB:B' ≤ B):OwnP B' w p:=⟨own_base0 h.1 hB,own_base0 h.2.1 hB,own_base0 h.2.2 hB⟩
end Go.Proofs.YtkmhmnffbgedgaaDoor
