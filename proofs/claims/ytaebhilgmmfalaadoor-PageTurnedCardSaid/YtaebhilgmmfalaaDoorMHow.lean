/- Merged texts: How1, How2, How3, How4, How5, IsV2. -/
import Derived.Test.YtaebhilgmmfalaaDoorMSt
import Derived.WideMake
import Derived.Deep.RegionHeld3
import Derived.Test.YtaebhilgmmfalaaDoorMRow
import Derived.BigQuiet
import Derived.Test.YtaebhilgmmfalaaDoorMRef
import Derived.Test.YtaebhilgmmfalaaDoorMEnc

/- The walk of stats.table: the map of the six ways to stand. -/
namespace Go.Proofs.YtaebhilgmmfalaaDoor
set_option linter.unusedVariables false
open Go Go.RowKit Go.ChangeShapes

theorem push_set {α : Type} (a : Array α) (x y : α) : (a.push x).setIfInBounds a.size y = a.push y := by
  apply Array.ext
  · simp
  · intro i h1 h2
    simp at h1 h2
    by_cases h : i = a.size
    · subst h; simp
    · have hi : i < a.size := by omega
      rw [Array.getElem_setIfInBounds_ne (by simp; omega) (fun e => h e.symm)]
      simp [Array.getElem_push, hi]
theorem alloc_set (w : World) (o o' : Obj) : ({ w.alloc o with heap := (w.alloc o).heap.setIfInBounds w.heap.size o' } : World) = w.alloc o' := by
  show ({ w with heap := (w.heap.push o).setIfInBounds w.heap.size o' } : World) = { w with heap := w.heap.push o' }
  rw [push_set]
theorem run_insert_new {P : Program} (w : World) (mty kt et : TypeId) (es : Array MapEntry) (clock : Nat) (s : ByteArray) (val : Value) (hm : P.underlying mty = some (.map kt et)) (hk : P.underlying kt = some .string)
    (hf : Instr.findNow .string (.string s) es.toList 0 = some none) :
    (Instr.mapUpdate mty (.map (some w.heap.size)) (.string s) val).run P (w.alloc (.map es clock)) = .ok () (w.alloc (.map (es.push { key := .string s, val := val, born := clock }) (clock + 1))) := by
  have hb : (w.alloc (.map es clock)).heap[w.heap.size]? = some (.map es clock) := heap_alloc_new _ _
  have hc : (Instr.checkKey false 10000 kt (.string s)).run P (w.alloc (.map es clock)) = .ok () (w.alloc (.map es clock)) := MapKept.run_checkKey (k := .string s) hk (by simp [MapKept.IsKey]) false 9999
  simp [Instr.mapUpdate, run_underlying hm, MapKept.run_getObj_map hb, hc, MapKept.run_findKey hk hf, MapKept.run_setObj_map _ hb, Result.andThen]
  exact alloc_set w _ _

end Go.Proofs.YtaebhilgmmfalaaDoor

/- The walk of stats.How. -/
namespace Go.Proofs.YtaebhilgmmfalaaDoor
set_option linter.unusedVariables false
open Go Go.RowKit Go.ChangeShapes

theorem run_lookup_key {P : Program} {w : World} {mty kt et r clock : Nat} {es : Array MapEntry} (s : ByteArray) (i : Nat) (v : Value) (hm : P.underlying mty = some (.map kt et)) (hk : P.underlying kt = some .string) (hb : w.heap[r]? = some (.map es clock))
    (hf : Instr.findNow .string (.string s) es.toList 0 = some (some (i, v))) : (Instr.lookup mty (.map (some r)) (.string s) true).run P w = .ok (.tuple #[v, .bool true]) w := by
  have hc : ∀ e, (Instr.checkKey e 10000 kt (.string s)).run P w = .ok () w := fun e => MapKept.run_checkKey (k := .string s) hk (by simp [MapKept.IsKey]) e 9999
  simp [Instr.lookup, run_underlying hm, MapKept.run_getObj_map hb, hc, MapKept.run_findKey hk hf, Result.andThen]
theorem run_lookup_none {P : Program} {w : World} {mty kt et r clock : Nat} {es : Array MapEntry} (s : ByteArray) (z : Value) (hm : P.underlying mty = some (.map kt et)) (hk : P.underlying kt = some .string) (hb : w.heap[r]? = some (.map es clock))
    (hz : (zeroValue et).run P w = .ok z w) (hf : Instr.findNow .string (.string s) es.toList 0 = some none) : (Instr.lookup mty (.map (some r)) (.string s) true).run P w = .ok (.tuple #[z, .bool false]) w := by
  have hc : ∀ e, (Instr.checkKey e 10000 kt (.string s)).run P w = .ok () w := fun e => MapKept.run_checkKey (k := .string s) hk (by simp [MapKept.IsKey]) e 9999
  simp [Instr.lookup, run_underlying hm, MapKept.run_getObj_map hb, hc, MapKept.run_findKey hk hf, hz, Result.andThen]
theorem same_no {s t : ByteArray} (h : s ≠ t) : Instr.sameNow .string (.string s) (.string t) = some false := by
  have hb : (s == t) = false := by
    cases s with
    | mk a =>
      cases t with
      | mk b =>
        have hne : a ≠ b := fun e => h (by rw [e])
        first
          | exact beq_eq_false_iff_ne.2 h
          | (show (a == b) = false; exact beq_eq_false_iff_ne.2 hne)
  simp [Instr.sameNow, hb]
/-- what How tells of a known way -/
def standsB (k : Nat) (l m : Bool) : Bool := match k with
  | 0 => l
  | 1 => !m
  | 2 => !l && !m
  | 3 => l || m
  | 4 => m
  | _ => !l
end Go.Proofs.YtaebhilgmmfalaaDoor

/- The walk of stats.How at an unknown way and at the six known ones. -/
namespace Go.Proofs.YtaebhilgmmfalaaDoor
set_option linter.unusedVariables false
open Go Go.RowKit Go.ChangeShapes

end Go.Proofs.YtaebhilgmmfalaaDoor

/- The walk of the document's StandsOf. -/
namespace Go.Proofs.YtaebhilgmmfalaaDoor
set_option linter.unusedVariables false
open Go Go.RowKit Go.ChangeShapes

end Go.Proofs.YtaebhilgmmfalaaDoor

/- How and StandsOf at whatever way. -/
namespace Go.Proofs.YtaebhilgmmfalaaDoor
set_option linter.unusedVariables false
open Go Go.RowKit Go.ChangeShapes

/-- does it stand so? none: no such way -/
def standsO (s : ByteArray) (l m : Bool) : Option Bool := if s = ⟨#[60]⟩ then some l else if s = ⟨#[60, 61]⟩ then some (!m) else if s = ⟨#[61]⟩ then some (!l && !m) else if s = ⟨#[33, 61]⟩ then some (l || m) else if s = ⟨#[62]⟩ then some m else if s = ⟨#[62, 61]⟩ then some (!l) else none
end Go.Proofs.YtaebhilgmmfalaaDoor

/- The document's IsValue at any kind. -/
namespace Go.Proofs.YtaebhilgmmfalaaDoor
set_option linter.unusedVariables false
open Go Go.RowKit Go.ChangeShapes

/-- a value of a kind? -/
def isV (kind : Int) (x : Val) : Bool := decide (1 ≤ kind ∧ kind ≤ 5) && okB kind x

end Go.Proofs.YtaebhilgmmfalaaDoor
