/- Merged texts: Row3, Row4, Res. -/
import Derived.Test.YtapiabmmfmfaeaaGreatDoorMRow
/- More on nine cells written over. -/
namespace Go.Proofs.YtapiabmmfmfaeaaGreatDoor
set_option linter.unusedVariables false
open Go Go.RowKit
theorem cell_set9 {w:World} {b o k:Nat} {v:Option Value} (hne:b ≠ k) (h:w.cell? ⟨b,o,none⟩ = v) (x0 x1 x2 x3 x4 x5 x6 x7 x8:Value) :
  (((((((((w.setCell ⟨k,0,none⟩ x0).setCell ⟨k,1,none⟩ x1).setCell ⟨k,2,none⟩ x2).setCell ⟨k,3,none⟩ x3).setCell ⟨k,4,none⟩ x4).setCell ⟨k,5,none⟩ x5).setCell ⟨k,6,none⟩ x6).setCell ⟨k,7,none⟩ x7).setCell ⟨k,8,none⟩ x8).cell? ⟨b,o,none⟩ = v:=by
 rw [← h]
 refine World.cell?_of_block (a:=⟨b,o,none⟩) ?_
 show _ = w.heap[b]?
 rw [heap_setCell_other _ _ _ _ hne,heap_setCell_other _ _ _ _ hne,heap_setCell_other _ _ _ _ hne,heap_setCell_other _ _ _ _ hne,heap_setCell_other _ _ _ _ hne,heap_setCell_other _ _ _ _ hne,heap_setCell_other _ _ _ _ hne,heap_setCell_other _ _ _ _ hne,heap_setCell_other _ _ _ _ hne]
theorem rowc_set9_self {w:World} {g:Nat} {cs:Array Value} {t:TypeId} (hg:w.heap[g]? = some (.cells cs t (0,0))) (hsz:cs.size = 9) (x0 x1 x2 x3 x4 x5 x6 x7 x8:Value):∀ j,(((((((((w.setCell ⟨g,0,none⟩ x0).setCell ⟨g,1,none⟩ x1).setCell ⟨g,2,none⟩ x2).setCell ⟨g,3,none⟩ x3).setCell ⟨g,4,none⟩ x4).setCell ⟨g,5,none⟩ x5).setCell ⟨g,6,none⟩ x6).setCell ⟨g,7,none⟩ x7).setCell ⟨g,8,none⟩ x8).cell? ⟨g,j,none⟩ = (#[x0,x1,x2,x3,x4,x5,x6,x7,x8]:Array Value)[j]? :=
 rowc (row_set9 hg hsz x0 x1 x2 x3 x4 x5 x6 x7 x8)
theorem cell_drew (w:World) (p:Addr):w.drew.cell? p = w.cell? p:=rfl
theorem cell_set9d {w:World} {b o k:Nat} {v:Option Value} (hne:b ≠ k) (h:w.cell? ⟨b,o,none⟩ = v) (x0 x1 x2 x3 x4 x5 x6 x7 x8:Value):(((((((((w.setCell ⟨k,0,none⟩ x0).setCell ⟨k,1,none⟩ x1).setCell ⟨k,2,none⟩ x2).setCell ⟨k,3,none⟩ x3).setCell ⟨k,4,none⟩ x4).setCell ⟨k,5,none⟩ x5).setCell ⟨k,6,none⟩ x6).setCell ⟨k,7,none⟩ x7).setCell ⟨k,8,none⟩ x8).drew.cell? ⟨b,o,none⟩ = v:=(cell_drew _ _).trans <| cell_set9 hne h x0 x1 x2 x3 x4 x5 x6 x7 x8
theorem rowc_set9_selfd {w:World} {k:Nat} {cs:Array Value} {t:TypeId} (hg:w.heap[k]? = some (.cells cs t (0,0))) (hsz:cs.size = 9) (x0 x1 x2 x3 x4 x5 x6 x7 x8:Value):∀ j,(((((((((w.setCell ⟨k,0,none⟩ x0).setCell ⟨k,1,none⟩ x1).setCell ⟨k,2,none⟩ x2).setCell ⟨k,3,none⟩ x3).setCell ⟨k,4,none⟩ x4).setCell ⟨k,5,none⟩ x5).setCell ⟨k,6,none⟩ x6).setCell ⟨k,7,none⟩ x7).setCell ⟨k,8,none⟩ x8).drew.cell? ⟨k,j,none⟩ = (#[x0,x1,x2,x3,x4,x5,x6,x7,x8]:Array Value)[j]?:=fun j=>(cell_drew _ _).trans (rowc_set9_self hg hsz x0 x1 x2 x3 x4 x5 x6 x7 x8 j)
theorem rowc_set9d {w:World} {g k:Nat} {cs:Array Value} {t:TypeId} (hg:w.heap[g]? = some (.cells cs t (0,0))) (hne:g ≠ k) (x0 x1 x2 x3 x4 x5 x6 x7 x8:Value):∀ j,(((((((((w.setCell ⟨k,0,none⟩ x0).setCell ⟨k,1,none⟩ x1).setCell ⟨k,2,none⟩ x2).setCell ⟨k,3,none⟩ x3).setCell ⟨k,4,none⟩ x4).setCell ⟨k,5,none⟩ x5).setCell ⟨k,6,none⟩ x6).setCell ⟨k,7,none⟩ x7).setCell ⟨k,8,none⟩ x8).drew.cell? ⟨g,j,none⟩ = cs[j]?:=fun j=>(cell_drew _ _).trans (rowc_set9 hg hne x0 x1 x2 x3 x4 x5 x6 x7 x8 j)
theorem heap_drew (w:World):w.drew.heap = w.heap:=rfl
theorem row_set9d {w:World} {k:Nat} {cs:Array Value} {t:TypeId} (hg:w.heap[k]? = some (.cells cs t (0,0))) (hsz:cs.size = 9) (x0 x1 x2 x3 x4 x5 x6 x7 x8:Value):(((((((((w.setCell ⟨k,0,none⟩ x0).setCell ⟨k,1,none⟩ x1).setCell ⟨k,2,none⟩ x2).setCell ⟨k,3,none⟩ x3).setCell ⟨k,4,none⟩ x4).setCell ⟨k,5,none⟩ x5).setCell ⟨k,6,none⟩ x6).setCell ⟨k,7,none⟩ x7).setCell ⟨k,8,none⟩ x8).drew.heap[k]? = some (.cells #[x0,x1,x2,x3,x4,x5,x6,x7,x8] t (0,0)):=by
 rw [heap_drew]
 exact row_set9 hg hsz x0 x1 x2 x3 x4 x5 x6 x7 x8
end Go.Proofs.YtapiabmmfmfaeaaGreatDoor
/- 4 cells written over a block that is known (by tools/gen_rown.py). -/
namespace Go.Proofs.YtapiabmmfmfaeaaGreatDoor
set_option linter.unusedVariables false
open Go Go.RowKit
theorem set4_nest (w:World) (g:Nat) (x0 x1 x2 x3:Value):w.setCells g 0 [x0,x1,x2,x3] = ((((w.setCell ⟨g,0,none⟩ x0).setCell ⟨g,1,none⟩ x1).setCell ⟨g,2,none⟩ x2).setCell ⟨g,3,none⟩ x3):=rfl
theorem row_set4 {w:World} {g:Nat} {cs:Array Value} {t:TypeId} (hg:w.heap[g]? = some (.cells cs t (0,0))) (hsz:cs.size = 4) (x0 x1 x2 x3:Value):((((w.setCell ⟨g,0,none⟩ x0).setCell ⟨g,1,none⟩ x1).setCell ⟨g,2,none⟩ x2).setCell ⟨g,3,none⟩ x3).heap[g]? = some (.cells #[x0,x1,x2,x3] t (0,0)):=by
 rw [← set4_nest]
 obtain ⟨a,-⟩:=setCells_row g t [x0,x1,x2,x3] w cs 0 hg
 rw [setPart_eq _ _ _ (by simp;omega)] at a
 refine Eq.trans a ?_
 obtain ⟨L⟩:=cs
 have hL:L.length = 4:=by simpa using hsz
 simp [setPart,List.drop_of_length_le (Nat.le_of_eq hL)]
theorem row_set4d {w:World} {g:Nat} {cs:Array Value} {t:TypeId} (hg:w.heap[g]? = some (.cells cs t (0,0))) (hsz:cs.size = 4) (x0 x1 x2 x3:Value):((((w.setCell ⟨g,0,none⟩ x0).setCell ⟨g,1,none⟩ x1).setCell ⟨g,2,none⟩ x2).setCell ⟨g,3,none⟩ x3).drew.heap[g]? = some (.cells #[x0,x1,x2,x3] t (0,0)):=by
 rw [heap_drew]
 exact row_set4 hg hsz x0 x1 x2 x3
theorem set4_other {w:World} {g k:Nat} (hne:g ≠ k) (x0 x1 x2 x3:Value):((((w.setCell ⟨k,0,none⟩ x0).setCell ⟨k,1,none⟩ x1).setCell ⟨k,2,none⟩ x2).setCell ⟨k,3,none⟩ x3).heap[g]? = w.heap[g]?:=by
 rw [heap_setCell_other _ _ _ _ hne,heap_setCell_other _ _ _ _ hne,heap_setCell_other _ _ _ _ hne,heap_setCell_other _ _ _ _ hne]
theorem cell_set4 {w:World} {b o k:Nat} {v:Option Value} (hne:b ≠ k) (h:w.cell? ⟨b,o,none⟩ = v) (x0 x1 x2 x3:Value):((((w.setCell ⟨k,0,none⟩ x0).setCell ⟨k,1,none⟩ x1).setCell ⟨k,2,none⟩ x2).setCell ⟨k,3,none⟩ x3).cell? ⟨b,o,none⟩ = v:=by
 rw [← h]
 refine World.cell?_of_block (a:=⟨b,o,none⟩) ?_
 show _ = w.heap[b]?
 rw [heap_setCell_other _ _ _ _ hne,heap_setCell_other _ _ _ _ hne,heap_setCell_other _ _ _ _ hne,heap_setCell_other _ _ _ _ hne]
theorem below_set4 {w:World} {B:Nat} {a:World} (h:Below B a w) (g:Nat) (hg:B ≤ g) (x0 x1 x2 x3:Value):Below B a ((((w.setCell ⟨g,0,none⟩ x0).setCell ⟨g,1,none⟩ x1).setCell ⟨g,2,none⟩ x2).setCell ⟨g,3,none⟩ x3):=(((h.setCell hg x0).setCell hg x1).setCell hg x2).setCell hg x3
end Go.Proofs.YtapiabmmfmfaeaaGreatDoor
/- What a function with a struct result hands back, the slots by equations. -/
namespace Go.Proofs.YtapiabmmfmfaeaaGreatDoor
set_option linter.unusedVariables false
open Go Go.RowKit
theorem res_cell2 {P:Program} {fn:Func} {p u v:Tmp} {ty:TypeId} (h:fn.results = #[.cell p ty,.tmp u,.tmp v]) (tmps:Array Value) (w:World) (g:Nat) (t:TypeId) (cs:Array Value) (fr:Nat × Nat) (d:TypeDesc) (x y:Value)
  (hp:tmps.getD p undef = .pointer (some ⟨g,0,none⟩)) (hx:tmps.getD u undef = x) (hy:tmps.getD v undef = y) (hg:w.heap[g]? = some (.cells cs t fr))
  (hu:P.underlying ty = some d) (hd:(match d with | .struct _ | .array _ _=>true | _=>false) = true) (hi:(P.info? ty).map (·.size) = some cs.size) :
  (results fn tmps).run P w = .ok (.tuple #[.agg cs,x,y]) w:=by
 subst hx hy
 exact results_row_tmp2 h tmps w g t cs fr d hp hg hu hd hi
end Go.Proofs.YtapiabmmfmfaeaaGreatDoor
