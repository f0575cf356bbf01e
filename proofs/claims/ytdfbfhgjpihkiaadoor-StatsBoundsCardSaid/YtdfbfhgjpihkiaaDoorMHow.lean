/- Merged texts: How1, How2, How3, How4, How5, IsV2. -/
import Derived.Test.YtdfbfhgjpihkiaaDoorMSt
import Derived.WideMake
import Derived.Deep.RegionHeld3
import Derived.Test.YtdfbfhgjpihkiaaDoorMRow
import Derived.BigQuiet
import Derived.Test.YtdfbfhgjpihkiaaDoorMRef
import Derived.Test.YtdfbfhgjpihkiaaDoorMEnc

/- The walk of stats.table: the map of the six ways to stand. -/
namespace Go.Proofs.YtdfbfhgjpihkiaaDoor
set_option linter.unusedVariables false
open Go Go.RowKit Go.ChangeShapes

theorem push_set {α : Type} (a : Array α) (x y : α) : (a.push x).setIfInBounds a.size y = a.push y := by
  apply Array.ext
  · simp
  · intro i h1 h2
    simp at h1 h2
    by_cases h : i = a.size
    · subst h; simp
    · have hi : i < a.size := by omega
      rw [Array.getElem_setIfInBounds_ne (by simp; omega) (fun e => h e.symm)]
      simp [Array.getElem_push, hi]
theorem alloc_set (w : World) (o o' : Obj) : ({ w.alloc o with heap := (w.alloc o).heap.setIfInBounds w.heap.size o' } : World) = w.alloc o' := by
  show ({ w with heap := (w.heap.push o).setIfInBounds w.heap.size o' } : World) = { w with heap := w.heap.push o' }
  rw [push_set]
theorem run_insert_new {P : Program} (w : World) (mty kt et : TypeId) (es : Array MapEntry) (clock : Nat) (s : ByteArray) (val : Value) (hm : P.underlying mty = some (.map kt et)) (hk : P.underlying kt = some .string)
    (hf : Instr.findNow .string (.string s) es.toList 0 = some none) :
    (Instr.mapUpdate mty (.map (some w.heap.size)) (.string s) val).run P (w.alloc (.map es clock)) = .ok () (w.alloc (.map (es.push { key := .string s, val := val, born := clock }) (clock + 1))) := by
  have hb : (w.alloc (.map es clock)).heap[w.heap.size]? = some (.map es clock) := heap_alloc_new _ _
  have hc : (Instr.checkKey false 10000 kt (.string s)).run P (w.alloc (.map es clock)) = .ok () (w.alloc (.map es clock)) := MapKept.run_checkKey (k := .string s) hk (by simp [MapKept.IsKey]) false 9999
  simp [Instr.mapUpdate, run_underlying hm, MapKept.run_getObj_map hb, hc, MapKept.run_findKey hk hf, MapKept.run_setObj_map _ hb, Result.andThen]
  exact alloc_set w _ _

/-- the entries of the table -/
def hows : List (List UInt8 × Nat) := [([60], 75), ([60, 61], 76), ([61], 77), ([33, 61], 78), ([62], 79), ([62, 61], 80)]
def howE (k : Nat) : Array MapEntry := (((hows.take k).zipIdx).map fun x => { key := .string ⟨x.1.1.toArray⟩, val := .func (Fn.func x.1.2) #[] #[], born := x.2 : MapEntry }).toArray

set_option maxRecDepth 100000 in
set_option maxHeartbeats 4000000 in
theorem tableM_any (w : World) : Calls Tryd.prog 50 #[] w fun e w' => e = .returned (.map (some w.heap.size)) ∧ w' = w.alloc (.map (howE 6) 6) := by
  have hmm := @run_makeMap Tryd.prog
  have h0 : ∀ wx : World, (Instr.mapUpdate 95 (.map (some wx.heap.size)) (.string ⟨#[60]⟩) (.func (Fn.func 75) #[] #[])).run Tryd.prog (wx.alloc (.map #[] 0)) = .ok () (wx.alloc (.map #[{ key := .string ⟨#[60]⟩, val := .func (Fn.func 75) #[] #[], born := 0 }] 1)) := fun wx => run_insert_new wx _ _ _ _ _ _ _ Tryd.underlying95 Tryd.underlying9 rfl
  have h1 : ∀ wx : World, (Instr.mapUpdate 95 (.map (some wx.heap.size)) (.string ⟨#[60, 61]⟩) (.func (Fn.func 76) #[] #[])).run Tryd.prog (wx.alloc (.map #[{ key := .string ⟨#[60]⟩, val := .func (Fn.func 75) #[] #[], born := 0 }] 1)) = .ok () (wx.alloc (.map #[{ key := .string ⟨#[60]⟩, val := .func (Fn.func 75) #[] #[], born := 0 }, { key := .string ⟨#[60, 61]⟩, val := .func (Fn.func 76) #[] #[], born := 1 }] 2)) := fun wx => run_insert_new wx _ _ _ _ _ _ _ Tryd.underlying95 Tryd.underlying9 rfl
  have h2 : ∀ wx : World, (Instr.mapUpdate 95 (.map (some wx.heap.size)) (.string ⟨#[61]⟩) (.func (Fn.func 77) #[] #[])).run Tryd.prog (wx.alloc (.map #[{ key := .string ⟨#[60]⟩, val := .func (Fn.func 75) #[] #[], born := 0 }, { key := .string ⟨#[60, 61]⟩, val := .func (Fn.func 76) #[] #[], born := 1 }] 2)) = .ok () (wx.alloc (.map #[{ key := .string ⟨#[60]⟩, val := .func (Fn.func 75) #[] #[], born := 0 }, { key := .string ⟨#[60, 61]⟩, val := .func (Fn.func 76) #[] #[], born := 1 }, { key := .string ⟨#[61]⟩, val := .func (Fn.func 77) #[] #[], born := 2 }] 3)) := fun wx => run_insert_new wx _ _ _ _ _ _ _ Tryd.underlying95 Tryd.underlying9 rfl
  have h3 : ∀ wx : World, (Instr.mapUpdate 95 (.map (some wx.heap.size)) (.string ⟨#[33, 61]⟩) (.func (Fn.func 78) #[] #[])).run Tryd.prog (wx.alloc (.map #[{ key := .string ⟨#[60]⟩, val := .func (Fn.func 75) #[] #[], born := 0 }, { key := .string ⟨#[60, 61]⟩, val := .func (Fn.func 76) #[] #[], born := 1 }, { key := .string ⟨#[61]⟩, val := .func (Fn.func 77) #[] #[], born := 2 }] 3)) = .ok () (wx.alloc (.map #[{ key := .string ⟨#[60]⟩, val := .func (Fn.func 75) #[] #[], born := 0 }, { key := .string ⟨#[60, 61]⟩, val := .func (Fn.func 76) #[] #[], born := 1 }, { key := .string ⟨#[61]⟩, val := .func (Fn.func 77) #[] #[], born := 2 }, { key := .string ⟨#[33, 61]⟩, val := .func (Fn.func 78) #[] #[], born := 3 }] 4)) := fun wx => run_insert_new wx _ _ _ _ _ _ _ Tryd.underlying95 Tryd.underlying9 rfl
  have h4 : ∀ wx : World, (Instr.mapUpdate 95 (.map (some wx.heap.size)) (.string ⟨#[62]⟩) (.func (Fn.func 79) #[] #[])).run Tryd.prog (wx.alloc (.map #[{ key := .string ⟨#[60]⟩, val := .func (Fn.func 75) #[] #[], born := 0 }, { key := .string ⟨#[60, 61]⟩, val := .func (Fn.func 76) #[] #[], born := 1 }, { key := .string ⟨#[61]⟩, val := .func (Fn.func 77) #[] #[], born := 2 }, { key := .string ⟨#[33, 61]⟩, val := .func (Fn.func 78) #[] #[], born := 3 }] 4)) = .ok () (wx.alloc (.map #[{ key := .string ⟨#[60]⟩, val := .func (Fn.func 75) #[] #[], born := 0 }, { key := .string ⟨#[60, 61]⟩, val := .func (Fn.func 76) #[] #[], born := 1 }, { key := .string ⟨#[61]⟩, val := .func (Fn.func 77) #[] #[], born := 2 }, { key := .string ⟨#[33, 61]⟩, val := .func (Fn.func 78) #[] #[], born := 3 }, { key := .string ⟨#[62]⟩, val := .func (Fn.func 79) #[] #[], born := 4 }] 5)) := fun wx => run_insert_new wx _ _ _ _ _ _ _ Tryd.underlying95 Tryd.underlying9 rfl
  have h5 : ∀ wx : World, (Instr.mapUpdate 95 (.map (some wx.heap.size)) (.string ⟨#[62, 61]⟩) (.func (Fn.func 80) #[] #[])).run Tryd.prog (wx.alloc (.map #[{ key := .string ⟨#[60]⟩, val := .func (Fn.func 75) #[] #[], born := 0 }, { key := .string ⟨#[60, 61]⟩, val := .func (Fn.func 76) #[] #[], born := 1 }, { key := .string ⟨#[61]⟩, val := .func (Fn.func 77) #[] #[], born := 2 }, { key := .string ⟨#[33, 61]⟩, val := .func (Fn.func 78) #[] #[], born := 3 }, { key := .string ⟨#[62]⟩, val := .func (Fn.func 79) #[] #[], born := 4 }] 5)) = .ok () (wx.alloc (.map #[{ key := .string ⟨#[60]⟩, val := .func (Fn.func 75) #[] #[], born := 0 }, { key := .string ⟨#[60, 61]⟩, val := .func (Fn.func 76) #[] #[], born := 1 }, { key := .string ⟨#[61]⟩, val := .func (Fn.func 77) #[] #[], born := 2 }, { key := .string ⟨#[33, 61]⟩, val := .func (Fn.func 78) #[] #[], born := 3 }, { key := .string ⟨#[62]⟩, val := .func (Fn.func 79) #[] #[], born := 4 }, { key := .string ⟨#[62, 61]⟩, val := .func (Fn.func 80) #[] #[], born := 5 }] 6)) := fun wx => run_insert_new wx _ _ _ _ _ _ _ Tryd.underlying95 Tryd.underlying9 rfl
  go_enter Tryd.func50, Tryd.ntmps50
  go_wp2_with fail
  go_ret
  exact ⟨rfl, rfl⟩
end Go.Proofs.YtdfbfhgjpihkiaaDoor

/- The walk of stats.How. -/
namespace Go.Proofs.YtdfbfhgjpihkiaaDoor
set_option linter.unusedVariables false
open Go Go.RowKit Go.ChangeShapes

theorem run_lookup_key {P : Program} {w : World} {mty kt et r clock : Nat} {es : Array MapEntry} (s : ByteArray) (i : Nat) (v : Value) (hm : P.underlying mty = some (.map kt et)) (hk : P.underlying kt = some .string) (hb : w.heap[r]? = some (.map es clock))
    (hf : Instr.findNow .string (.string s) es.toList 0 = some (some (i, v))) : (Instr.lookup mty (.map (some r)) (.string s) true).run P w = .ok (.tuple #[v, .bool true]) w := by
  have hc : ∀ e, (Instr.checkKey e 10000 kt (.string s)).run P w = .ok () w := fun e => MapKept.run_checkKey (k := .string s) hk (by simp [MapKept.IsKey]) e 9999
  simp [Instr.lookup, run_underlying hm, MapKept.run_getObj_map hb, hc, MapKept.run_findKey hk hf, Result.andThen]
theorem run_lookup_none {P : Program} {w : World} {mty kt et r clock : Nat} {es : Array MapEntry} (s : ByteArray) (z : Value) (hm : P.underlying mty = some (.map kt et)) (hk : P.underlying kt = some .string) (hb : w.heap[r]? = some (.map es clock))
    (hz : (zeroValue et).run P w = .ok z w) (hf : Instr.findNow .string (.string s) es.toList 0 = some none) : (Instr.lookup mty (.map (some r)) (.string s) true).run P w = .ok (.tuple #[z, .bool false]) w := by
  have hc : ∀ e, (Instr.checkKey e 10000 kt (.string s)).run P w = .ok () w := fun e => MapKept.run_checkKey (k := .string s) hk (by simp [MapKept.IsKey]) e 9999
  simp [Instr.lookup, run_underlying hm, MapKept.run_getObj_map hb, hc, MapKept.run_findKey hk hf, hz, Result.andThen]
theorem same_no {s t : ByteArray} (h : s ≠ t) : Instr.sameNow .string (.string s) (.string t) = some false := by
  have hb : (s == t) = false := by
    cases s with
    | mk a =>
      cases t with
      | mk b =>
        have hne : a ≠ b := fun e => h (by rw [e])
        first
          | exact beq_eq_false_iff_ne.2 h
          | (show (a == b) = false; exact beq_eq_false_iff_ne.2 hne)
  simp [Instr.sameNow, hb]
theorem how_none (s : ByteArray) (h : ∀ x ∈ hows, s ≠ ⟨x.1.toArray⟩) : Instr.findNow .string (.string s) (howE 6).toList 0 = some none := by
  have h0 := h _ (List.mem_of_getElem? (show hows[0]? = _ from rfl))
  have h1 := h _ (List.mem_of_getElem? (show hows[1]? = _ from rfl))
  have h2 := h _ (List.mem_of_getElem? (show hows[2]? = _ from rfl))
  have h3 := h _ (List.mem_of_getElem? (show hows[3]? = _ from rfl))
  have h4 := h _ (List.mem_of_getElem? (show hows[4]? = _ from rfl))
  have h5 := h _ (List.mem_of_getElem? (show hows[5]? = _ from rfl))
  simp [howE, hows, Instr.findNow, same_no h0, same_no h1, same_no h2, same_no h3, same_no h4, same_no h5]

set_option maxRecDepth 100000 in
theorem cl_1 (l m : Bool) (w : World) : Calls Tryd.prog 75 #[.bool l, .bool m] w fun e w' => e = .returned (.bool l) ∧ w' = w := by
  cases l <;> cases m <;> (go_enter Tryd.func75, Tryd.ntmps75; go_wp2; go_ret; exact ⟨rfl, rfl⟩)

set_option maxRecDepth 100000 in
theorem cl_2 (l m : Bool) (w : World) : Calls Tryd.prog 76 #[.bool l, .bool m] w fun e w' => e = .returned (.bool (!m)) ∧ w' = w := by
  cases l <;> cases m <;> (go_enter Tryd.func76, Tryd.ntmps76; go_wp2; go_ret; exact ⟨rfl, rfl⟩)

set_option maxRecDepth 100000 in
theorem cl_3 (l m : Bool) (w : World) : Calls Tryd.prog 77 #[.bool l, .bool m] w fun e w' => e = .returned (.bool (!l && !m)) ∧ w' = w := by
  cases l <;> cases m <;> (go_enter Tryd.func77, Tryd.ntmps77; go_wp2; go_ret; exact ⟨rfl, rfl⟩)

set_option maxRecDepth 100000 in
theorem cl_4 (l m : Bool) (w : World) : Calls Tryd.prog 78 #[.bool l, .bool m] w fun e w' => e = .returned (.bool (l || m)) ∧ w' = w := by
  cases l <;> cases m <;> (go_enter Tryd.func78, Tryd.ntmps78; go_wp2; go_ret; exact ⟨rfl, rfl⟩)

set_option maxRecDepth 100000 in
theorem cl_5 (l m : Bool) (w : World) : Calls Tryd.prog 79 #[.bool l, .bool m] w fun e w' => e = .returned (.bool m) ∧ w' = w := by
  cases l <;> cases m <;> (go_enter Tryd.func79, Tryd.ntmps79; go_wp2; go_ret; exact ⟨rfl, rfl⟩)

set_option maxRecDepth 100000 in
theorem cl_6 (l m : Bool) (w : World) : Calls Tryd.prog 80 #[.bool l, .bool m] w fun e w' => e = .returned (.bool (!l)) ∧ w' = w := by
  cases l <;> cases m <;> (go_enter Tryd.func80, Tryd.ntmps80; go_wp2; go_ret; exact ⟨rfl, rfl⟩)

/-- what How tells of a known way -/
def standsB (k : Nat) (l m : Bool) : Bool := match k with
  | 0 => l
  | 1 => !m
  | 2 => !l && !m
  | 3 => l || m
  | 4 => m
  | _ => !l
theorem zeroF (w : World) : (zeroValue 93).run Tryd.prog w = .ok .nilFunc w := by kernel_rfl
end Go.Proofs.YtdfbfhgjpihkiaaDoor

/- The walk of stats.How at an unknown way and at the six known ones. -/
namespace Go.Proofs.YtdfbfhgjpihkiaaDoor
set_option linter.unusedVariables false
open Go Go.RowKit Go.ChangeShapes

theorem tableL_any (w : World) : Calls Tryd.prog 50 #[] w fun e w' => e = .returned (.map (some w.heap.size)) ∧ w'.heap[w.heap.size]? = some (.map (howE 6) 6) ∧ Below w.heap.size w w' :=
  (tableM_any w).mono fun e w' ⟨h1, h2⟩ => ⟨h1, by rw [h2]; exact heap_alloc_new _ _, by rw [h2]; exact (Below.refl _ _).alloc (Nat.le_refl _) _⟩

set_option maxRecDepth 100000 in
set_option maxHeartbeats 4000000 in
theorem how_no (a b : Val) (s : ByteArray) (h : ∀ x ∈ hows, s ≠ ⟨x.1.toArray⟩) (w : World) :
    Calls Tryd.prog 31 #[.agg (valA a), .string s, .agg (valA b)] w fun e w' => e = .returned (.tuple #[.bool false, .bool false]) ∧ Below w.heap.size w w' := by
  have Hn := Lib.hid (how_none s h)
  clear h
  unfold valA
  go_enter Tryd.func31, Tryd.ntmps31
  go_wp2_with fail
  refine (tableL_any _).mono ?_; rintro e w1 ⟨rfl, hm, hb1⟩
  obtain ⟨rA, rB, hbw, hz⟩ := rows2 hb1
  have hm' : w1.heap[w.heap.size + 1 + 1]? = some (.map (howE 6) 6) := by simpa using hm
  have hlk := run_lookup_none s .nilFunc Tryd.underlying95 Tryd.underlying9 hm' (zeroF w1) Hn.out
  clear hm hm' hb1 rA rB
  go_wp2_with fail
  go_quiet (fail)
  go_wp2_with fail
  go_ret2
  exact ⟨rfl, below_drewN hbw _⟩

set_option maxRecDepth 100000 in
set_option maxHeartbeats 4000000 in
theorem how_yes0 (a b : Val) (ha : a.Ok) (hb : b.Ok) (l m : Bool) (hl : a.less b = l) (hm : b.less a = m) (w : World) :
    Calls Tryd.prog 31 #[.agg (valA a), .string ⟨#[60]⟩, .agg (valA b)] w fun e w' => e = .returned (.tuple #[.bool l, .bool true]) ∧ Below w.heap.size w w' := by
  have HL := Lib.hid (fun w1 => less_at a b ha hb l hl w1); have HM := Lib.hid (fun w1 => less_at b a hb ha m hm w1); have HC := Lib.hid (fun w1 => cl_1 l m w1)
  clear ha hb hl hm
  unfold valA
  go_enter Tryd.func31, Tryd.ntmps31
  go_wp2_with fail
  refine (tableL_any _).mono ?_; rintro e w1 ⟨rfl, hm, hb1⟩
  obtain ⟨rA, rB, hbw, hz⟩ := rows2 hb1
  have hm' : w1.heap[w.heap.size + 1 + 1]? = some (.map (howE 6) 6) := by simpa using hm
  have hlk := run_lookup_key ⟨#[60]⟩ 0 (.func (Fn.func 75) #[] #[]) Tryd.underlying95 Tryd.underlying9 hm' rfl
  have RA := Lib.hid rA; have RB := Lib.hid rB; have HB := Lib.hid (Below.refl w1.heap.size w1); have Hbw := Lib.hid hbw
  have cA := rowc rA; have cB := rowc rB
  clear hm hm' hb1 rA rB hbw
  go_wp2_with fail
  go_region_held3 (fun w' => (∀ j, w'.cell? ⟨w.heap.size, j, none⟩ = (#[.int .i64 a.k, .int .i64 a.n, .string a.s] : Array Value)[j]?) ∧ (∀ j, w'.cell? ⟨w.heap.size + 1, j, none⟩ = (#[.int .i64 b.k, .int .i64 b.n, .string b.s] : Array Value)[j]?))
    (first | (with_reducible exact ⟨rowc RA.out, rowc RB.out⟩) | (with_reducible exact ⟨rowc_drew RA.out, rowc_drew RB.out⟩))
    (first
    | (go_at_call 30; (with_reducible refine (HL.out _).mono ?_); rintro e w2 ⟨rfl, hb2⟩; (first | (with_reducible have hbs := drew_first hb2) | (have hbs := hb2)); replace RA := Lib.hid (row_keep hbs RA.out); replace RB := Lib.hid (row_keep hbs RB.out); replace HB := Lib.hid (HB.out.trans (hbs.mono HB.out.size)); clear hb2 hbs)
    | (go_at_call 30; (with_reducible refine (HM.out _).mono ?_); rintro e w2 ⟨rfl, hb2⟩; (first | (with_reducible have hbs := drew_first hb2) | (have hbs := hb2)); replace RA := Lib.hid (row_keep hbs RA.out); replace RB := Lib.hid (row_keep hbs RB.out); replace HB := Lib.hid (HB.out.trans (hbs.mono HB.out.size)); clear hb2 hbs)
    | (go_at_call 75; (with_reducible refine (HC.out _).mono ?_); rintro e w2 ⟨rfl, rfl⟩))
  go_wp2_with fail
  go_ret2
  exact ⟨rfl, Hbw.out.trans (HB.out.mono Hbw.out.size)⟩

set_option maxRecDepth 100000 in
set_option maxHeartbeats 4000000 in
theorem how_yes1 (a b : Val) (ha : a.Ok) (hb : b.Ok) (l m : Bool) (hl : a.less b = l) (hm : b.less a = m) (w : World) :
    Calls Tryd.prog 31 #[.agg (valA a), .string ⟨#[60, 61]⟩, .agg (valA b)] w fun e w' => e = .returned (.tuple #[.bool (!m), .bool true]) ∧ Below w.heap.size w w' := by
  have HL := Lib.hid (fun w1 => less_at a b ha hb l hl w1); have HM := Lib.hid (fun w1 => less_at b a hb ha m hm w1); have HC := Lib.hid (fun w1 => cl_2 l m w1)
  clear ha hb hl hm
  unfold valA
  go_enter Tryd.func31, Tryd.ntmps31
  go_wp2_with fail
  refine (tableL_any _).mono ?_; rintro e w1 ⟨rfl, hm, hb1⟩
  obtain ⟨rA, rB, hbw, hz⟩ := rows2 hb1
  have hm' : w1.heap[w.heap.size + 1 + 1]? = some (.map (howE 6) 6) := by simpa using hm
  have hlk := run_lookup_key ⟨#[60, 61]⟩ 1 (.func (Fn.func 76) #[] #[]) Tryd.underlying95 Tryd.underlying9 hm' rfl
  have RA := Lib.hid rA; have RB := Lib.hid rB; have HB := Lib.hid (Below.refl w1.heap.size w1); have Hbw := Lib.hid hbw
  have cA := rowc rA; have cB := rowc rB
  clear hm hm' hb1 rA rB hbw
  go_wp2_with fail
  go_region_held3 (fun w' => (∀ j, w'.cell? ⟨w.heap.size, j, none⟩ = (#[.int .i64 a.k, .int .i64 a.n, .string a.s] : Array Value)[j]?) ∧ (∀ j, w'.cell? ⟨w.heap.size + 1, j, none⟩ = (#[.int .i64 b.k, .int .i64 b.n, .string b.s] : Array Value)[j]?))
    (first | (with_reducible exact ⟨rowc RA.out, rowc RB.out⟩) | (with_reducible exact ⟨rowc_drew RA.out, rowc_drew RB.out⟩))
    (first
    | (go_at_call 30; (with_reducible refine (HL.out _).mono ?_); rintro e w2 ⟨rfl, hb2⟩; (first | (with_reducible have hbs := drew_first hb2) | (have hbs := hb2)); replace RA := Lib.hid (row_keep hbs RA.out); replace RB := Lib.hid (row_keep hbs RB.out); replace HB := Lib.hid (HB.out.trans (hbs.mono HB.out.size)); clear hb2 hbs)
    | (go_at_call 30; (with_reducible refine (HM.out _).mono ?_); rintro e w2 ⟨rfl, hb2⟩; (first | (with_reducible have hbs := drew_first hb2) | (have hbs := hb2)); replace RA := Lib.hid (row_keep hbs RA.out); replace RB := Lib.hid (row_keep hbs RB.out); replace HB := Lib.hid (HB.out.trans (hbs.mono HB.out.size)); clear hb2 hbs)
    | (go_at_call 76; (with_reducible refine (HC.out _).mono ?_); rintro e w2 ⟨rfl, rfl⟩))
  go_wp2_with fail
  go_ret2
  exact ⟨rfl, Hbw.out.trans (HB.out.mono Hbw.out.size)⟩

set_option maxRecDepth 100000 in
set_option maxHeartbeats 4000000 in
theorem how_yes2 (a b : Val) (ha : a.Ok) (hb : b.Ok) (l m : Bool) (hl : a.less b = l) (hm : b.less a = m) (w : World) :
    Calls Tryd.prog 31 #[.agg (valA a), .string ⟨#[61]⟩, .agg (valA b)] w fun e w' => e = .returned (.tuple #[.bool (!l && !m), .bool true]) ∧ Below w.heap.size w w' := by
  have HL := Lib.hid (fun w1 => less_at a b ha hb l hl w1); have HM := Lib.hid (fun w1 => less_at b a hb ha m hm w1); have HC := Lib.hid (fun w1 => cl_3 l m w1)
  clear ha hb hl hm
  unfold valA
  go_enter Tryd.func31, Tryd.ntmps31
  go_wp2_with fail
  refine (tableL_any _).mono ?_; rintro e w1 ⟨rfl, hm, hb1⟩
  obtain ⟨rA, rB, hbw, hz⟩ := rows2 hb1
  have hm' : w1.heap[w.heap.size + 1 + 1]? = some (.map (howE 6) 6) := by simpa using hm
  have hlk := run_lookup_key ⟨#[61]⟩ 2 (.func (Fn.func 77) #[] #[]) Tryd.underlying95 Tryd.underlying9 hm' rfl
  have RA := Lib.hid rA; have RB := Lib.hid rB; have HB := Lib.hid (Below.refl w1.heap.size w1); have Hbw := Lib.hid hbw
  have cA := rowc rA; have cB := rowc rB
  clear hm hm' hb1 rA rB hbw
  go_wp2_with fail
  go_region_held3 (fun w' => (∀ j, w'.cell? ⟨w.heap.size, j, none⟩ = (#[.int .i64 a.k, .int .i64 a.n, .string a.s] : Array Value)[j]?) ∧ (∀ j, w'.cell? ⟨w.heap.size + 1, j, none⟩ = (#[.int .i64 b.k, .int .i64 b.n, .string b.s] : Array Value)[j]?))
    (first | (with_reducible exact ⟨rowc RA.out, rowc RB.out⟩) | (with_reducible exact ⟨rowc_drew RA.out, rowc_drew RB.out⟩))
    (first
    | (go_at_call 30; (with_reducible refine (HL.out _).mono ?_); rintro e w2 ⟨rfl, hb2⟩; (first | (with_reducible have hbs := drew_first hb2) | (have hbs := hb2)); replace RA := Lib.hid (row_keep hbs RA.out); replace RB := Lib.hid (row_keep hbs RB.out); replace HB := Lib.hid (HB.out.trans (hbs.mono HB.out.size)); clear hb2 hbs)
    | (go_at_call 30; (with_reducible refine (HM.out _).mono ?_); rintro e w2 ⟨rfl, hb2⟩; (first | (with_reducible have hbs := drew_first hb2) | (have hbs := hb2)); replace RA := Lib.hid (row_keep hbs RA.out); replace RB := Lib.hid (row_keep hbs RB.out); replace HB := Lib.hid (HB.out.trans (hbs.mono HB.out.size)); clear hb2 hbs)
    | (go_at_call 77; (with_reducible refine (HC.out _).mono ?_); rintro e w2 ⟨rfl, rfl⟩))
  go_wp2_with fail
  go_ret2
  exact ⟨rfl, Hbw.out.trans (HB.out.mono Hbw.out.size)⟩

set_option maxRecDepth 100000 in
set_option maxHeartbeats 4000000 in
theorem how_yes3 (a b : Val) (ha : a.Ok) (hb : b.Ok) (l m : Bool) (hl : a.less b = l) (hm : b.less a = m) (w : World) :
    Calls Tryd.prog 31 #[.agg (valA a), .string ⟨#[33, 61]⟩, .agg (valA b)] w fun e w' => e = .returned (.tuple #[.bool (l || m), .bool true]) ∧ Below w.heap.size w w' := by
  have HL := Lib.hid (fun w1 => less_at a b ha hb l hl w1); have HM := Lib.hid (fun w1 => less_at b a hb ha m hm w1); have HC := Lib.hid (fun w1 => cl_4 l m w1)
  clear ha hb hl hm
  unfold valA
  go_enter Tryd.func31, Tryd.ntmps31
  go_wp2_with fail
  refine (tableL_any _).mono ?_; rintro e w1 ⟨rfl, hm, hb1⟩
  obtain ⟨rA, rB, hbw, hz⟩ := rows2 hb1
  have hm' : w1.heap[w.heap.size + 1 + 1]? = some (.map (howE 6) 6) := by simpa using hm
  have hlk := run_lookup_key ⟨#[33, 61]⟩ 3 (.func (Fn.func 78) #[] #[]) Tryd.underlying95 Tryd.underlying9 hm' rfl
  have RA := Lib.hid rA; have RB := Lib.hid rB; have HB := Lib.hid (Below.refl w1.heap.size w1); have Hbw := Lib.hid hbw
  have cA := rowc rA; have cB := rowc rB
  clear hm hm' hb1 rA rB hbw
  go_wp2_with fail
  go_region_held3 (fun w' => (∀ j, w'.cell? ⟨w.heap.size, j, none⟩ = (#[.int .i64 a.k, .int .i64 a.n, .string a.s] : Array Value)[j]?) ∧ (∀ j, w'.cell? ⟨w.heap.size + 1, j, none⟩ = (#[.int .i64 b.k, .int .i64 b.n, .string b.s] : Array Value)[j]?))
    (first | (with_reducible exact ⟨rowc RA.out, rowc RB.out⟩) | (with_reducible exact ⟨rowc_drew RA.out, rowc_drew RB.out⟩))
    (first
    | (go_at_call 30; (with_reducible refine (HL.out _).mono ?_); rintro e w2 ⟨rfl, hb2⟩; (first | (with_reducible have hbs := drew_first hb2) | (have hbs := hb2)); replace RA := Lib.hid (row_keep hbs RA.out); replace RB := Lib.hid (row_keep hbs RB.out); replace HB := Lib.hid (HB.out.trans (hbs.mono HB.out.size)); clear hb2 hbs)
    | (go_at_call 30; (with_reducible refine (HM.out _).mono ?_); rintro e w2 ⟨rfl, hb2⟩; (first | (with_reducible have hbs := drew_first hb2) | (have hbs := hb2)); replace RA := Lib.hid (row_keep hbs RA.out); replace RB := Lib.hid (row_keep hbs RB.out); replace HB := Lib.hid (HB.out.trans (hbs.mono HB.out.size)); clear hb2 hbs)
    | (go_at_call 78; (with_reducible refine (HC.out _).mono ?_); rintro e w2 ⟨rfl, rfl⟩))
  go_wp2_with fail
  go_ret2
  exact ⟨rfl, Hbw.out.trans (HB.out.mono Hbw.out.size)⟩

set_option maxRecDepth 100000 in
set_option maxHeartbeats 4000000 in
theorem how_yes4 (a b : Val) (ha : a.Ok) (hb : b.Ok) (l m : Bool) (hl : a.less b = l) (hm : b.less a = m) (w : World) :
    Calls Tryd.prog 31 #[.agg (valA a), .string ⟨#[62]⟩, .agg (valA b)] w fun e w' => e = .returned (.tuple #[.bool m, .bool true]) ∧ Below w.heap.size w w' := by
  have HL := Lib.hid (fun w1 => less_at a b ha hb l hl w1); have HM := Lib.hid (fun w1 => less_at b a hb ha m hm w1); have HC := Lib.hid (fun w1 => cl_5 l m w1)
  clear ha hb hl hm
  unfold valA
  go_enter Tryd.func31, Tryd.ntmps31
  go_wp2_with fail
  refine (tableL_any _).mono ?_; rintro e w1 ⟨rfl, hm, hb1⟩
  obtain ⟨rA, rB, hbw, hz⟩ := rows2 hb1
  have hm' : w1.heap[w.heap.size + 1 + 1]? = some (.map (howE 6) 6) := by simpa using hm
  have hlk := run_lookup_key ⟨#[62]⟩ 4 (.func (Fn.func 79) #[] #[]) Tryd.underlying95 Tryd.underlying9 hm' rfl
  have RA := Lib.hid rA; have RB := Lib.hid rB; have HB := Lib.hid (Below.refl w1.heap.size w1); have Hbw := Lib.hid hbw
  have cA := rowc rA; have cB := rowc rB
  clear hm hm' hb1 rA rB hbw
  go_wp2_with fail
  go_region_held3 (fun w' => (∀ j, w'.cell? ⟨w.heap.size, j, none⟩ = (#[.int .i64 a.k, .int .i64 a.n, .string a.s] : Array Value)[j]?) ∧ (∀ j, w'.cell? ⟨w.heap.size + 1, j, none⟩ = (#[.int .i64 b.k, .int .i64 b.n, .string b.s] : Array Value)[j]?))
    (first | (with_reducible exact ⟨rowc RA.out, rowc RB.out⟩) | (with_reducible exact ⟨rowc_drew RA.out, rowc_drew RB.out⟩))
    (first
    | (go_at_call 30; (with_reducible refine (HL.out _).mono ?_); rintro e w2 ⟨rfl, hb2⟩; (first | (with_reducible have hbs := drew_first hb2) | (have hbs := hb2)); replace RA := Lib.hid (row_keep hbs RA.out); replace RB := Lib.hid (row_keep hbs RB.out); replace HB := Lib.hid (HB.out.trans (hbs.mono HB.out.size)); clear hb2 hbs)
    | (go_at_call 30; (with_reducible refine (HM.out _).mono ?_); rintro e w2 ⟨rfl, hb2⟩; (first | (with_reducible have hbs := drew_first hb2) | (have hbs := hb2)); replace RA := Lib.hid (row_keep hbs RA.out); replace RB := Lib.hid (row_keep hbs RB.out); replace HB := Lib.hid (HB.out.trans (hbs.mono HB.out.size)); clear hb2 hbs)
    | (go_at_call 79; (with_reducible refine (HC.out _).mono ?_); rintro e w2 ⟨rfl, rfl⟩))
  go_wp2_with fail
  go_ret2
  exact ⟨rfl, Hbw.out.trans (HB.out.mono Hbw.out.size)⟩

set_option maxRecDepth 100000 in
set_option maxHeartbeats 4000000 in
theorem how_yes5 (a b : Val) (ha : a.Ok) (hb : b.Ok) (l m : Bool) (hl : a.less b = l) (hm : b.less a = m) (w : World) :
    Calls Tryd.prog 31 #[.agg (valA a), .string ⟨#[62, 61]⟩, .agg (valA b)] w fun e w' => e = .returned (.tuple #[.bool (!l), .bool true]) ∧ Below w.heap.size w w' := by
  have HL := Lib.hid (fun w1 => less_at a b ha hb l hl w1); have HM := Lib.hid (fun w1 => less_at b a hb ha m hm w1); have HC := Lib.hid (fun w1 => cl_6 l m w1)
  clear ha hb hl hm
  unfold valA
  go_enter Tryd.func31, Tryd.ntmps31
  go_wp2_with fail
  refine (tableL_any _).mono ?_; rintro e w1 ⟨rfl, hm, hb1⟩
  obtain ⟨rA, rB, hbw, hz⟩ := rows2 hb1
  have hm' : w1.heap[w.heap.size + 1 + 1]? = some (.map (howE 6) 6) := by simpa using hm
  have hlk := run_lookup_key ⟨#[62, 61]⟩ 5 (.func (Fn.func 80) #[] #[]) Tryd.underlying95 Tryd.underlying9 hm' rfl
  have RA := Lib.hid rA; have RB := Lib.hid rB; have HB := Lib.hid (Below.refl w1.heap.size w1); have Hbw := Lib.hid hbw
  have cA := rowc rA; have cB := rowc rB
  clear hm hm' hb1 rA rB hbw
  go_wp2_with fail
  go_region_held3 (fun w' => (∀ j, w'.cell? ⟨w.heap.size, j, none⟩ = (#[.int .i64 a.k, .int .i64 a.n, .string a.s] : Array Value)[j]?) ∧ (∀ j, w'.cell? ⟨w.heap.size + 1, j, none⟩ = (#[.int .i64 b.k, .int .i64 b.n, .string b.s] : Array Value)[j]?))
    (first | (with_reducible exact ⟨rowc RA.out, rowc RB.out⟩) | (with_reducible exact ⟨rowc_drew RA.out, rowc_drew RB.out⟩))
    (first
    | (go_at_call 30; (with_reducible refine (HL.out _).mono ?_); rintro e w2 ⟨rfl, hb2⟩; (first | (with_reducible have hbs := drew_first hb2) | (have hbs := hb2)); replace RA := Lib.hid (row_keep hbs RA.out); replace RB := Lib.hid (row_keep hbs RB.out); replace HB := Lib.hid (HB.out.trans (hbs.mono HB.out.size)); clear hb2 hbs)
    | (go_at_call 30; (with_reducible refine (HM.out _).mono ?_); rintro e w2 ⟨rfl, hb2⟩; (first | (with_reducible have hbs := drew_first hb2) | (have hbs := hb2)); replace RA := Lib.hid (row_keep hbs RA.out); replace RB := Lib.hid (row_keep hbs RB.out); replace HB := Lib.hid (HB.out.trans (hbs.mono HB.out.size)); clear hb2 hbs)
    | (go_at_call 80; (with_reducible refine (HC.out _).mono ?_); rintro e w2 ⟨rfl, rfl⟩))
  go_wp2_with fail
  go_ret2
  exact ⟨rfl, Hbw.out.trans (HB.out.mono Hbw.out.size)⟩
end Go.Proofs.YtdfbfhgjpihkiaaDoor

/- The walk of the document's StandsOf. -/
namespace Go.Proofs.YtdfbfhgjpihkiaaDoor
set_option linter.unusedVariables false
open Go Go.RowKit Go.ChangeShapes

set_option maxRecDepth 100000 in
set_option maxHeartbeats 8000000 in
theorem standsOf_yes0 (a b : Val) (ha : a.Ok) (hb : b.Ok) (l m : Bool) (hl : a.less b = l) (hm : b.less a = m) (w : World) :
    Calls Tryd.prog 15 #[.agg (valA a), .string ⟨#[60]⟩, .agg (valA b)] w fun e w' => e = .returned (.tuple #[.bool l, .bool true]) ∧ Below w.heap.size w w' := by
  have HL := Lib.hid (fun w1 => lessOf_at a b ha hb _ hl w1); have HM := Lib.hid (fun w1 => lessOf_at b a hb ha _ hm w1)
  clear ha hb hl hm
  unfold valA
  go_enter Tryd.func15, Tryd.ntmps15
  go_wp2_with fail
  refine (HL.out _).mono ?_; rintro e w1 ⟨rfl, hb1⟩
  obtain ⟨rA, rB, hbw, hz⟩ := rows2 hb1
  have RA := Lib.hid rA; have RB := Lib.hid rB; have Hbw := Lib.hid hbw
  have cA := rowc rA; have cB := rowc rB
  clear hb1 rA rB hbw
  go_wp2_with fail
  refine (HM.out _).mono ?_; rintro e w2 ⟨rfl, hb2⟩
  have Hbw2 := Lib.hid (Hbw.out.trans (hb2.mono Hbw.out.size))
  clear hb2 cA cB
  cases l <;> cases m <;> (go_wp2_with fail; go_ret2; exact ⟨rfl, Hbw2.out⟩)

set_option maxRecDepth 100000 in
set_option maxHeartbeats 8000000 in
theorem standsOf_yes1 (a b : Val) (ha : a.Ok) (hb : b.Ok) (l m : Bool) (hl : a.less b = l) (hm : b.less a = m) (w : World) :
    Calls Tryd.prog 15 #[.agg (valA a), .string ⟨#[60, 61]⟩, .agg (valA b)] w fun e w' => e = .returned (.tuple #[.bool (!m), .bool true]) ∧ Below w.heap.size w w' := by
  have HL := Lib.hid (fun w1 => lessOf_at a b ha hb _ hl w1); have HM := Lib.hid (fun w1 => lessOf_at b a hb ha _ hm w1)
  clear ha hb hl hm
  unfold valA
  go_enter Tryd.func15, Tryd.ntmps15
  go_wp2_with fail
  refine (HL.out _).mono ?_; rintro e w1 ⟨rfl, hb1⟩
  obtain ⟨rA, rB, hbw, hz⟩ := rows2 hb1
  have RA := Lib.hid rA; have RB := Lib.hid rB; have Hbw := Lib.hid hbw
  have cA := rowc rA; have cB := rowc rB
  clear hb1 rA rB hbw
  go_wp2_with fail
  refine (HM.out _).mono ?_; rintro e w2 ⟨rfl, hb2⟩
  have Hbw2 := Lib.hid (Hbw.out.trans (hb2.mono Hbw.out.size))
  clear hb2 cA cB
  cases l <;> cases m <;> (go_wp2_with fail; go_ret2; exact ⟨rfl, Hbw2.out⟩)

set_option maxRecDepth 100000 in
set_option maxHeartbeats 8000000 in
theorem standsOf_yes2 (a b : Val) (ha : a.Ok) (hb : b.Ok) (l m : Bool) (hl : a.less b = l) (hm : b.less a = m) (w : World) :
    Calls Tryd.prog 15 #[.agg (valA a), .string ⟨#[61]⟩, .agg (valA b)] w fun e w' => e = .returned (.tuple #[.bool (!l && !m), .bool true]) ∧ Below w.heap.size w w' := by
  have HL := Lib.hid (fun w1 => lessOf_at a b ha hb _ hl w1); have HM := Lib.hid (fun w1 => lessOf_at b a hb ha _ hm w1)
  clear ha hb hl hm
  unfold valA
  go_enter Tryd.func15, Tryd.ntmps15
  go_wp2_with fail
  refine (HL.out _).mono ?_; rintro e w1 ⟨rfl, hb1⟩
  obtain ⟨rA, rB, hbw, hz⟩ := rows2 hb1
  have RA := Lib.hid rA; have RB := Lib.hid rB; have Hbw := Lib.hid hbw
  have cA := rowc rA; have cB := rowc rB
  clear hb1 rA rB hbw
  go_wp2_with fail
  refine (HM.out _).mono ?_; rintro e w2 ⟨rfl, hb2⟩
  have Hbw2 := Lib.hid (Hbw.out.trans (hb2.mono Hbw.out.size))
  clear hb2 cA cB
  cases l <;> cases m <;> (go_wp2_with fail; go_ret2; exact ⟨rfl, Hbw2.out⟩)

set_option maxRecDepth 100000 in
set_option maxHeartbeats 8000000 in
theorem standsOf_yes3 (a b : Val) (ha : a.Ok) (hb : b.Ok) (l m : Bool) (hl : a.less b = l) (hm : b.less a = m) (w : World) :
    Calls Tryd.prog 15 #[.agg (valA a), .string ⟨#[33, 61]⟩, .agg (valA b)] w fun e w' => e = .returned (.tuple #[.bool (l || m), .bool true]) ∧ Below w.heap.size w w' := by
  have HL := Lib.hid (fun w1 => lessOf_at a b ha hb _ hl w1); have HM := Lib.hid (fun w1 => lessOf_at b a hb ha _ hm w1)
  clear ha hb hl hm
  unfold valA
  go_enter Tryd.func15, Tryd.ntmps15
  go_wp2_with fail
  refine (HL.out _).mono ?_; rintro e w1 ⟨rfl, hb1⟩
  obtain ⟨rA, rB, hbw, hz⟩ := rows2 hb1
  have RA := Lib.hid rA; have RB := Lib.hid rB; have Hbw := Lib.hid hbw
  have cA := rowc rA; have cB := rowc rB
  clear hb1 rA rB hbw
  go_wp2_with fail
  refine (HM.out _).mono ?_; rintro e w2 ⟨rfl, hb2⟩
  have Hbw2 := Lib.hid (Hbw.out.trans (hb2.mono Hbw.out.size))
  clear hb2 cA cB
  cases l <;> cases m <;> (go_wp2_with fail; go_ret2; exact ⟨rfl, Hbw2.out⟩)

set_option maxRecDepth 100000 in
set_option maxHeartbeats 8000000 in
theorem standsOf_yes4 (a b : Val) (ha : a.Ok) (hb : b.Ok) (l m : Bool) (hl : a.less b = l) (hm : b.less a = m) (w : World) :
    Calls Tryd.prog 15 #[.agg (valA a), .string ⟨#[62]⟩, .agg (valA b)] w fun e w' => e = .returned (.tuple #[.bool m, .bool true]) ∧ Below w.heap.size w w' := by
  have HL := Lib.hid (fun w1 => lessOf_at a b ha hb _ hl w1); have HM := Lib.hid (fun w1 => lessOf_at b a hb ha _ hm w1)
  clear ha hb hl hm
  unfold valA
  go_enter Tryd.func15, Tryd.ntmps15
  go_wp2_with fail
  refine (HL.out _).mono ?_; rintro e w1 ⟨rfl, hb1⟩
  obtain ⟨rA, rB, hbw, hz⟩ := rows2 hb1
  have RA := Lib.hid rA; have RB := Lib.hid rB; have Hbw := Lib.hid hbw
  have cA := rowc rA; have cB := rowc rB
  clear hb1 rA rB hbw
  go_wp2_with fail
  refine (HM.out _).mono ?_; rintro e w2 ⟨rfl, hb2⟩
  have Hbw2 := Lib.hid (Hbw.out.trans (hb2.mono Hbw.out.size))
  clear hb2 cA cB
  cases l <;> cases m <;> (go_wp2_with fail; go_ret2; exact ⟨rfl, Hbw2.out⟩)

set_option maxRecDepth 100000 in
set_option maxHeartbeats 8000000 in
theorem standsOf_yes5 (a b : Val) (ha : a.Ok) (hb : b.Ok) (l m : Bool) (hl : a.less b = l) (hm : b.less a = m) (w : World) :
    Calls Tryd.prog 15 #[.agg (valA a), .string ⟨#[62, 61]⟩, .agg (valA b)] w fun e w' => e = .returned (.tuple #[.bool (!l), .bool true]) ∧ Below w.heap.size w w' := by
  have HL := Lib.hid (fun w1 => lessOf_at a b ha hb _ hl w1); have HM := Lib.hid (fun w1 => lessOf_at b a hb ha _ hm w1)
  clear ha hb hl hm
  unfold valA
  go_enter Tryd.func15, Tryd.ntmps15
  go_wp2_with fail
  refine (HL.out _).mono ?_; rintro e w1 ⟨rfl, hb1⟩
  obtain ⟨rA, rB, hbw, hz⟩ := rows2 hb1
  have RA := Lib.hid rA; have RB := Lib.hid rB; have Hbw := Lib.hid hbw
  have cA := rowc rA; have cB := rowc rB
  clear hb1 rA rB hbw
  go_wp2_with fail
  refine (HM.out _).mono ?_; rintro e w2 ⟨rfl, hb2⟩
  have Hbw2 := Lib.hid (Hbw.out.trans (hb2.mono Hbw.out.size))
  clear hb2 cA cB
  cases l <;> cases m <;> (go_wp2_with fail; go_ret2; exact ⟨rfl, Hbw2.out⟩)

set_option maxRecDepth 100000 in
set_option maxHeartbeats 8000000 in
theorem standsOf_no (a b : Val) (ha : a.Ok) (hb : b.Ok) (s : ByteArray) (h : ∀ x ∈ hows, s ≠ ⟨x.1.toArray⟩) (w : World) :
    Calls Tryd.prog 15 #[.agg (valA a), .string s, .agg (valA b)] w fun e w' => e = .returned (.tuple #[.bool false, .bool false]) ∧ Below w.heap.size w w' := by
  have key : ∀ l : List UInt8, s ≠ ⟨l.toArray⟩ → (s.toList == l) = false := fun l hn => by
    rw [beq_eq_false_iff_ne]
    intro e
    exact hn (toList_inj (by rw [e, ByteArray.toList_eq]))
  have h0 := key _ (h _ (List.mem_of_getElem? (show hows[0]? = _ from rfl)))
  have h1 := key _ (h _ (List.mem_of_getElem? (show hows[1]? = _ from rfl)))
  have h2 := key _ (h _ (List.mem_of_getElem? (show hows[2]? = _ from rfl)))
  have h3 := key _ (h _ (List.mem_of_getElem? (show hows[3]? = _ from rfl)))
  have h4 := key _ (h _ (List.mem_of_getElem? (show hows[4]? = _ from rfl)))
  have h5 := key _ (h _ (List.mem_of_getElem? (show hows[5]? = _ from rfl)))
  have hl : a.less b = a.less b := rfl
  have hm : b.less a = b.less a := rfl
  clear key h
  have HL := Lib.hid (fun w1 => lessOf_at a b ha hb _ hl w1); have HM := Lib.hid (fun w1 => lessOf_at b a hb ha _ hm w1)
  clear ha hb hl hm
  unfold valA
  go_enter Tryd.func15, Tryd.ntmps15
  go_wp2_with fail
  refine (HL.out _).mono ?_; rintro e w1 ⟨rfl, hb1⟩
  obtain ⟨rA, rB, hbw, hz⟩ := rows2 hb1
  have RA := Lib.hid rA; have RB := Lib.hid rB; have Hbw := Lib.hid hbw
  have cA := rowc rA; have cB := rowc rB
  clear hb1 rA rB hbw
  go_wp2_with fail
  refine (HM.out _).mono ?_; rintro e w2 ⟨rfl, hb2⟩
  have Hbw2 := Lib.hid (Hbw.out.trans (hb2.mono Hbw.out.size))
  clear hb2 cA cB
  go_wp2_with fail
  go_ret2
  exact ⟨rfl, Hbw2.out⟩
end Go.Proofs.YtdfbfhgjpihkiaaDoor

/- How and StandsOf at whatever way. -/
namespace Go.Proofs.YtdfbfhgjpihkiaaDoor
set_option linter.unusedVariables false
open Go Go.RowKit Go.ChangeShapes

/-- does it stand so? none: no such way -/
def standsO (s : ByteArray) (l m : Bool) : Option Bool := if s = ⟨#[60]⟩ then some l else if s = ⟨#[60, 61]⟩ then some (!m) else if s = ⟨#[61]⟩ then some (!l && !m) else if s = ⟨#[33, 61]⟩ then some (l || m) else if s = ⟨#[62]⟩ then some m else if s = ⟨#[62, 61]⟩ then some (!l) else none
theorem stands_both (a b : Val) (ha : a.Ok) (hb : b.Ok) (s : ByteArray) :
    (∀ w, Calls Tryd.prog 31 #[.agg (valA a), .string s, .agg (valA b)] w fun e w' => e = .returned (.tuple #[.bool ((standsO s (a.less b) (b.less a)).getD false), .bool (standsO s (a.less b) (b.less a)).isSome]) ∧ Below w.heap.size w w') ∧
    (∀ w, Calls Tryd.prog 15 #[.agg (valA a), .string s, .agg (valA b)] w fun e w' => e = .returned (.tuple #[.bool ((standsO s (a.less b) (b.less a)).getD false), .bool (standsO s (a.less b) (b.less a)).isSome]) ∧ Below w.heap.size w w') := by
  by_cases h0 : s = ⟨#[60]⟩
  · subst h0; exact ⟨fun w => how_yes0 a b ha hb _ _ rfl rfl w, fun w => standsOf_yes0 a b ha hb _ _ rfl rfl w⟩
  by_cases h1 : s = ⟨#[60, 61]⟩
  · have e : standsO s (a.less b) (b.less a) = some (!(b.less a)) := by unfold standsO; rw [if_neg h0, if_pos h1]
    rw [e]; subst h1; exact ⟨fun w => how_yes1 a b ha hb _ _ rfl rfl w, fun w => standsOf_yes1 a b ha hb _ _ rfl rfl w⟩
  by_cases h2 : s = ⟨#[61]⟩
  · have e : standsO s (a.less b) (b.less a) = some (!(a.less b) && !(b.less a)) := by unfold standsO; rw [if_neg h0, if_neg h1, if_pos h2]
    rw [e]; subst h2; exact ⟨fun w => how_yes2 a b ha hb _ _ rfl rfl w, fun w => standsOf_yes2 a b ha hb _ _ rfl rfl w⟩
  by_cases h3 : s = ⟨#[33, 61]⟩
  · have e : standsO s (a.less b) (b.less a) = some ((a.less b) || (b.less a)) := by unfold standsO; rw [if_neg h0, if_neg h1, if_neg h2, if_pos h3]
    rw [e]; subst h3; exact ⟨fun w => how_yes3 a b ha hb _ _ rfl rfl w, fun w => standsOf_yes3 a b ha hb _ _ rfl rfl w⟩
  by_cases h4 : s = ⟨#[62]⟩
  · have e : standsO s (a.less b) (b.less a) = some (b.less a) := by unfold standsO; rw [if_neg h0, if_neg h1, if_neg h2, if_neg h3, if_pos h4]
    rw [e]; subst h4; exact ⟨fun w => how_yes4 a b ha hb _ _ rfl rfl w, fun w => standsOf_yes4 a b ha hb _ _ rfl rfl w⟩
  by_cases h5 : s = ⟨#[62, 61]⟩
  · have e : standsO s (a.less b) (b.less a) = some (!(a.less b)) := by unfold standsO; rw [if_neg h0, if_neg h1, if_neg h2, if_neg h3, if_neg h4, if_pos h5]
    rw [e]; subst h5; exact ⟨fun w => how_yes5 a b ha hb _ _ rfl rfl w, fun w => standsOf_yes5 a b ha hb _ _ rfl rfl w⟩
  have e : standsO s (a.less b) (b.less a) = none := by unfold standsO; rw [if_neg h0, if_neg h1, if_neg h2, if_neg h3, if_neg h4, if_neg h5]
  have hn : ∀ x ∈ hows, s ≠ ⟨x.1.toArray⟩ := by
    intro x hx
    simp only [hows, List.mem_cons, List.not_mem_nil, or_false] at hx
    rcases hx with rfl | rfl | rfl | rfl | rfl | rfl <;> assumption
  rw [e]
  exact ⟨fun w => how_no a b s hn w, fun w => standsOf_no a b ha hb s hn w⟩
end Go.Proofs.YtdfbfhgjpihkiaaDoor

/- The document's IsValue at any kind. -/
namespace Go.Proofs.YtdfbfhgjpihkiaaDoor
set_option linter.unusedVariables false
open Go Go.RowKit Go.ChangeShapes

/-- a value of a kind? -/
def isV (kind : Int) (x : Val) : Bool := decide (1 ≤ kind ∧ kind ≤ 5) && okB kind x

end Go.Proofs.YtdfbfhgjpihkiaaDoor
