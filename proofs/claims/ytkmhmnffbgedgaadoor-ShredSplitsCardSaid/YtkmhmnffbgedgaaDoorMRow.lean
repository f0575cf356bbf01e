/- Merged texts: Row, Row2. -/
import Derived.Test.YtkmhmnffbgedgaaDoorMPlain
import Derived.Laws.Rows
import Derived.Laws.ResultCell
import Derived.Deep.MidRow
/- Blocks that are known whole: loads and stores of parts, results; over any program. -/
namespace Go.Proofs.YtkmhmnffbgedgaaDoor
set_option linter.unusedVariables false
open Go Go.RowKit
def setPartI (cs:Array Value) (o:Nat):List Value → Array Value
 | []=>cs
 | v :: r=>setPartI (cs.setIfInBounds o v) (o + 1) r
def setPart (cs:Array Value) (o:Nat) (vs:List Value):Array Value:=(cs.toList.take o ++ (vs ++ cs.toList.drop (o + vs.length))).toArray
theorem setPart_eq:∀ (vs:List Value) (cs:Array Value) (o:Nat),o + vs.length ≤ cs.size → setPartI cs o vs = setPart cs o vs
 | [],cs,o,_=>by simp [setPartI,setPart]
 | v :: r,cs,o,h=>by
  rw [List.length_cons] at h
  rw [setPartI,setPart_eq r _ _ (by simp;omega)]
  unfold setPart
  congr 1
  rw [Array.toList_setIfInBounds,List.length_cons]
  have h1:(cs.toList.set o v).take (o + 1) = cs.toList.take o ++ [v]:=by
   rw [List.take_add_one,List.take_set_of_le (Nat.le_refl _),List.getElem?_set_self (by simp;omega)];rfl
  have h2:(cs.toList.set o v).drop (o + 1 + r.length) = cs.toList.drop (o + (r.length + 1)):=by
   rw [List.drop_set_of_lt (by omega),show o + 1 + r.length = o + (r.length + 1) by omega]
  rw [h1,h2,List.append_assoc]
  rfl
theorem rowc {w:World} {g:Nat} {cs:Array Value} {t:TypeId} (hg:w.heap[g]? = some (.cells cs t (0,0))):∀ j,w.cell? ⟨g,j,none⟩ = cs[j]?:=fun j=>cell_of_row w g j cs t (0,0) hg
theorem rowf {w:World} {g:Nat} {cs:Array Value} {t:TypeId} (hg:w.heap[g]? = some (.cells cs t (0,0))):∀ j,w.frozen? ⟨g,j,none⟩ = false:=fun j=>frozen_of_row w g j cs t hg
theorem row_lt {w:World} {g:Nat} {o:Obj} (hg:w.heap[g]? = some o):g < w.heap.size:=(Array.getElem?_eq_some_iff.1 hg).1
theorem row_below {w w':World} {g B:Nat} {o:Obj} (hb:Below B w w') (hg:w.heap[g]? = some o) (h:g < B):w'.heap[g]? = some o:=(hb.block _ h).trans hg
theorem row_keep {w w':World} {g:Nat} {o:Obj} (hb:Below w.heap.size w w') (hg:w.heap[g]? = some o):w'.heap[g]? = some o:=(hb.block _ (row_lt hg)).trans hg
theorem setCells_row (g:Nat) (t:TypeId):∀ (vs:List Value) (w:World) (cs:Array Value) (o:Nat),w.heap[g]? = some (.cells cs t (0,0)) →
  (w.setCells g o vs).heap[g]? = some (.cells (setPartI cs o vs) t (0,0)) ∧ (∀ i,i ≠ g → (w.setCells g o vs).heap[i]? = w.heap[i]?) ∧ Below g w (w.setCells g o vs) ∧ (w.setCells g o vs).heap.size = w.heap.size
 | [],w,cs,o,h=>⟨h,fun _ _=>rfl,Below.refl _ _,rfl⟩
 | v :: r,w,cs,o,h=>by
  have h1:=heap_setCell_same w g o cs t v h
  obtain ⟨a,b,c,d⟩:=setCells_row g t r (w.setCell ⟨g,o,none⟩ v) _ (o + 1) h1
  refine ⟨a,fun i hi=>(b i hi).trans (heap_setCell_other w ⟨g,o,none⟩ i v hi),((Below.refl g w).setCell (Nat.le_refl _) v).trans c,d.trans ?_⟩
  simp [World.setCell]
theorem wpList_store_part {P:Program} {w:World} {ops:Array Oper} {rest:List Oper} {op:Oper} {a:Act} {Q:Exit → Act → World → Prop} (hgd:op.guard = none) (ty:TypeId) (x y:Operand) (ho:op.op = .store ty x y)
  (g o:Nat) (cs:Array Value) (t:TypeId) (vs:Array Value) (hx:a.eval x = .pointer (some ⟨g,o,none⟩)) (hy:a.eval y = .agg vs) (hg:w.heap[g]? = some (.cells cs t (0,0)))
  (hi:(P.info? ty).map (·.size) = some vs.size) (h1:vs.all (·.oneCell') = true) (hsz:o + vs.size ≤ cs.size) (cs':Array Value) (hcs:setPart cs o vs.toList = cs')
  (h:∀ w',w'.heap[g]? = some (.cells cs' t (0,0)) → (∀ i,i ≠ g → w'.heap[i]? = w.heap[i]?) → Below g w w' → w'.heap.size = w.heap.size → wpList P ops Q rest (a.put op.dst undef) w'):wpList P ops Q (op :: rest) a w:=by
 refine wpList_store_mid hgd ty x y ho g o vs hx hy ?_ hi h1 ?_
 ·intro j hj
  exact ⟨by rw [rowc hg,Array.getElem?_eq_getElem (by omega)];rfl,rowf hg _⟩
 ·obtain ⟨b1,b2,b3,b4⟩:=setCells_row g t vs.toList w cs o hg
  rw [setPart_eq _ _ _ (by simpa using hsz),hcs] at b1
  exact h _ b1 b2 b3 b4
theorem store_cell_row {w:World} {g j:Nat} {cs:Array Value} {t:TypeId} {v:Value} (hg:w.heap[g]? = some (.cells cs t (0,0))) :
  (w.setCell ⟨g,j,none⟩ v).heap[g]? = some (.cells (cs.setIfInBounds j v) t (0,0)) ∧ (∀ i,i ≠ g → (w.setCell ⟨g,j,none⟩ v).heap[i]? = w.heap[i]?) ∧ Below g w (w.setCell ⟨g,j,none⟩ v) ∧ (w.setCell ⟨g,j,none⟩ v).heap.size = w.heap.size :=
 ⟨heap_setCell_same w g j cs t v hg,fun i hi=>heap_setCell_other w ⟨g,j,none⟩ i v hi,(Below.refl g w).setCell (Nat.le_refl _) v,by simp [World.setCell]⟩
theorem results_row_tmp {P:Program} {fn:Func} {p u:Tmp} {ty:TypeId} (h:fn.results = #[.cell p ty,.tmp u]) (tmps:Array Value) (w:World) (g:Nat) (t:TypeId) (cs:Array Value) (fr:Nat × Nat) (d:TypeDesc)
  (hp:tmps.getD p undef = .pointer (some ⟨g,0,none⟩)) (hg:w.heap[g]? = some (.cells cs t fr))
  (hu:P.underlying ty = some d) (hd:(match d with | .struct _ | .array _ _=>true | _=>false) = true) (hi:(P.info? ty).map (·.size) = some cs.size) :
  (results fn tmps).run P w = .ok (.tuple #[.agg cs,tmps.getD u undef]) w:=by
 rw [results_cell_tmp h,hp]
 simp [asAddr,Result.andThen,run_loadVar_row w g t ty cs fr d hg hu hd hi]
theorem rows1 {w w1:World} {A:Obj} (hb:Below (w.alloc A).heap.size (w.alloc A) w1):w1.heap[w.heap.size]? = some A ∧ Below w.heap.size w w1 ∧ w.heap.size < w1.heap.size:=by
 have hs:(w.alloc A).heap.size = w.heap.size + 1:=by simp
 have h:=hb.size
 exact ⟨row_below hb (heap_alloc_new _ _) (by omega),((Below.refl _ _).alloc (Nat.le_refl _) _).trans (hb.mono (by omega)),by omega⟩
theorem rows1d {w w1:World} {A:Obj} (hb:Below (w.alloc A).drew.heap.size (w.alloc A).drew w1):w1.heap[w.heap.size]? = some A ∧ Below w.heap.size w w1 ∧ w.heap.size < w1.heap.size :=
 rows1 (((Below.refl (w.alloc A).heap.size (w.alloc A)).drew).trans hb)
theorem drew_first {w w1:World} (hb:Below w.drew.heap.size w.drew w1):Below w.heap.size w w1:=((Below.refl w.heap.size w).drew).trans hb
theorem rows2 {w w1:World} {A B:Obj} (hb:Below ((w.alloc A).alloc B).heap.size ((w.alloc A).alloc B) w1):w1.heap[w.heap.size]? = some A ∧ w1.heap[w.heap.size + 1]? = some B ∧ Below w.heap.size w w1 ∧ w.heap.size + 1 < w1.heap.size:=by
 obtain ⟨b,h1,h2⟩:=rows1 hb
 rw [show (w.alloc A).heap.size = w.heap.size + 1 by simp] at b h2
 obtain ⟨a,h3,h4⟩:=rows1 h1
 exact ⟨a,b,h3,h2⟩
theorem rows3 {w w1:World} {A B C:Obj} (hb:Below (((w.alloc A).alloc B).alloc C).heap.size (((w.alloc A).alloc B).alloc C) w1) :
  w1.heap[w.heap.size]? = some A ∧ w1.heap[w.heap.size + 1]? = some B ∧ w1.heap[w.heap.size + 1 + 1]? = some C ∧ Below w.heap.size w w1 ∧ w.heap.size + 2 < w1.heap.size:=by
 obtain ⟨c,h1,h2⟩:=rows1 hb
 rw [show ((w.alloc A).alloc B).heap.size = w.heap.size + 1 + 1 by simp] at c h2
 obtain ⟨a,b,h3,h4⟩:=rows2 h1
 exact ⟨a,b,c,h3,h2⟩
end Go.Proofs.YtkmhmnffbgedgaaDoor
/- More on blocks that are known whole. -/
namespace Go.Proofs.YtkmhmnffbgedgaaDoor
set_option linter.unusedVariables false
open Go Go.RowKit
theorem rowc_drew {w:World} {g:Nat} {cs:Array Value} {t:TypeId} (hg:w.heap[g]? = some (.cells cs t (0,0))):∀ j,w.drew.cell? ⟨g,j,none⟩ = cs[j]?:=rowc (w:=w.drew) hg
theorem rowc_alloc {w:World} {g:Nat} {cs:Array Value} {t:TypeId} (hg:w.heap[g]? = some (.cells cs t (0,0))) (o:Obj):∀ j,(w.alloc o).cell? ⟨g,j,none⟩ = cs[j]?:=rowc ((Lib.alloc_old w o g (row_lt hg)).trans hg)
theorem rowc_alloc_drew {w:World} {g:Nat} {cs:Array Value} {t:TypeId} (hg:w.heap[g]? = some (.cells cs t (0,0))) (o:Obj):∀ j,(w.alloc o).drew.cell? ⟨g,j,none⟩ = cs[j]?:=rowc (w:=(w.alloc o).drew) ((Lib.alloc_old w o g (row_lt hg)).trans hg)
end Go.Proofs.YtkmhmnffbgedgaaDoor
