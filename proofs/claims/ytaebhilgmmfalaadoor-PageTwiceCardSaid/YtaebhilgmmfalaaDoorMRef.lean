/- Merged texts: IsVal, EncW6, EncW7, ValArgs. -/
import Derived.Test.YtaebhilgmmfalaaDoorMEnc
import Derived.Test.YtaebhilgmmfalaaDoorMBits
import Derived.Test.YtaebhilgmmfalaaDoorMWire
import Derived.Lib.SmallJoins
import Derived.OpenShut
import Derived.ChangeArms
import Derived.Deep.Slices
import Derived.Deep.Fields
import Derived.Deep.QuietTactic

/- The walks of the document's IsValue. -/
namespace Go.Proofs.YtaebhilgmmfalaaDoor
set_option linter.unusedVariables false
open Go Go.RowKit Go.ChangeShapes

end Go.Proofs.YtaebhilgmmfalaaDoor

/- The walks of the document's ManyError, ValuesError. -/
namespace Go.Proofs.YtaebhilgmmfalaaDoor
set_option linter.unusedVariables false
open Go Go.RowKit Go.ChangeShapes

theorem badAt_first (kind : Int) : ∀ (l : List Val) (i k : Nat) (x : Val), (∀ j y, j < k → l[j]? = some y → OkP kind y) → l[k]? = some x → ¬ OkP kind x → badAt kind l i = some (i + k)
  | [], _, k, x, _, h, _ => by simp at h
  | a :: l, i, 0, x, _, h, hn => by
    simp at h
    subst h
    unfold badAt
    rw [if_neg (fun h' => hn ((okB_iff kind a).1 h'))]; rfl
  | a :: l, i, k + 1, x, hP, h, hn => by
    unfold badAt
    rw [if_pos ((okB_iff kind a).2 (hP 0 a (by omega) rfl)), badAt_first kind l (i + 1) k x (fun j y hj hy => hP (j + 1) y (by omega) (by simpa using hy)) (by simpa using h) hn]
    congr 1; omega
theorem manyErr_vals {kind : Int} {l : List Val} (h : manyErr kind (l.length : Nat) ≠ .nil) : valsErr kind l = manyErr kind (l.length : Nat) := by
  unfold manyErr valsErr at *
  split
  · rfl
  · rw [if_neg (by assumption)] at h
    split at h
    · rw [if_pos (by omega), if_pos (by assumption)]
    · exact absurd rfl h
theorem manyErr_ok {kind : Int} {n : Int} (h : manyErr kind n = .nil) : 1 ≤ kind ∧ kind ≤ 5 ∧ 0 ≤ n ∧ n ≤ 20000 := by
  unfold manyErr at h
  split at h
  · cases h
  · split at h
    · cases h
    · omega
theorem manyErr_nil {kind : Int} {l : List Val} (h : manyErr kind (l.length : Nat) = .nil) : valsErr kind l = match badAt kind l 0 with | none => .nil | some i => .fault 4 (i : Nat) := by
  obtain ⟨h1, h2, h3, h4⟩ := manyErr_ok h
  unfold valsErr
  rw [if_neg (by omega), if_neg (by omega)]
  cases badAt kind l 0 <;> rfl

/-- a fault so far, k values seen -/
def FaultSo (kind : Int) (l : List Val) (k : Nat) (c p : Int) : Prop :=
  (c = 0 ∧ p = -1 ∧ manyErr kind (l.length : Nat) = .nil ∧ ∀ j y, j < k → l[j]? = some y → OkP kind y) ∨ ((c == 0) = false ∧ c = (valsErr kind l).code ∧ p = (valsErr kind l).at')

end Go.Proofs.YtaebhilgmmfalaaDoor

/- The walk of the document's PlainOf at right values. -/
namespace Go.Proofs.YtaebhilgmmfalaaDoor
set_option linter.unusedVariables false
open Go Go.RowKit Go.ChangeShapes

theorem packed_nil (wd : Nat) : packed wd [] = [] := by simp [packed, bytesOf, little]
end Go.Proofs.YtaebhilgmmfalaaDoor

/- Arguments that are values, opened. -/
namespace Go.Proofs.YtaebhilgmmfalaaDoor
set_option linter.unusedVariables false
open Go Go.RowKit Go.ChangeShapes Go.WideShapes Go.ChangeAt

set_option maxRecDepth 100000 in
theorem args_val {H : Type} {enc : TypeId × Value → H} {W : World} {v : Value} {d : DataW H} {p : List MemPlace} {base : Nat} (okv : Value.okWide Tryd.prog W .any base 44 v)
    (h : DataW.Trod enc Tryd.prog W 0 (fun _ => true) true 44 v d p) : ∃ x : Val, v = .agg (valA x) ∧ x.Ok := by
  obtain ⟨v0, v1, v2, y0, y1, y2, n, rfl, _, _, h0, h1, h2⟩ := Joins.open_agg3 Tryd.underlying44 (by kernel_rfl) (by kernel_rfl) okv h
  obtain ⟨a, ha, _, wa⟩ := DataW.trod_int Tryd.underlying3 h0
  obtain ⟨b, hb, _, wb⟩ := DataW.trod_int Tryd.underlying2 h1
  obtain ⟨s, hs, _, ws⟩ := DataW.trod_string Tryd.underlying9 h2
  simp only [List.cons.injEq, and_true] at ha hb hs
  subst ha hb hs
  have ba := bounds_i64 wa
  have bb := bounds_i64 wb
  exact ⟨⟨a, b, s⟩, rfl, ⟨ba.1, by show a < _; omega, bb.1, by show b < _; omega, ws⟩⟩

/-- such values as Go can hold -/
def FitsV (l : List Val) : Prop := l.length ≤ maxLen ∧ ∀ x ∈ l, x.Ok
theorem cells_val : Tryd.prog.cellsOf 44 = 3 := by kernel_rfl
/-- a struct of three one-cell fields, read -/
theorem fields3 {H : Type} {enc : TypeId × Value → H} {P : Program} {W : World} {base fuel : Nat} {sp : Nat → Bool} {held : Bool} {t : TypeId} {f0 f1 f2 : Field} {cs : List Value} {z : DataW H × List MemPlace}
    (hs : P.underlying t = some (.struct #[f0, f1, f2])) (hone : Deep.oneCellFields P #[f0, f1, f2] = true) (hC : P.cellsOf t = 3) (h : DataW.trod enc P W base sp held fuel t cs = some z) :
    ∃ c0 c1 c2 y0 y1 y2 n, cs = [c0, c1, c2] ∧ DataW.trod enc P W base sp held n f0.type [c0] = some y0 ∧ DataW.trod enc P W base sp held n f1.type [c1] = some y1 ∧ DataW.trod enc P W base sp held n f2.type [c2] = some y2 := by
  obtain ⟨xs, n, rfl, _, hlen, hxl, hf⟩ := DataW.trod_struct hs h
  rw [hC] at hlen
  match cs, hlen with
  | [c0, c1, c2], _ =>
    match xs, hxl with
    | [y0, y1, y2], _ =>
      obtain ⟨o0, k0⟩ := Deep.hone_of hone 0 f0 rfl
      obtain ⟨o1, k1⟩ := Deep.hone_of hone 1 f1 rfl
      obtain ⟨o2, k2⟩ := Deep.hone_of hone 2 f2 rfl
      exact ⟨c0, c1, c2, y0, y1, y2, n, rfl, by simpa [o0, k0] using hf 0 f0 rfl, by simpa [o1, k1] using hf 1 f1 rfl, by simpa [o2, k2] using hf 2 f2 rfl⟩
set_option maxRecDepth 100000 in
/-- the three cells of an element, read -/
theorem val_fields {H : Type} {enc : TypeId × Value → H} {W : World} {fuel : Nat} {cs : List Value} {z : DataW H × List MemPlace} (h : DataW.trod enc Tryd.prog W 0 (fun _ => true) true fuel 44 cs = some z) :
    ∃ x : Val, cs = valCells x ∧ x.Ok := by
  obtain ⟨c0, c1, c2, y0, y1, y2, n, rfl, h0, h1, h2⟩ := fields3 Tryd.underlying44 (by kernel_rfl) cells_val h
  obtain ⟨a, ha, _, wa⟩ := DataW.trod_int Tryd.underlying3 h0
  obtain ⟨b, hb, _, wb⟩ := DataW.trod_int Tryd.underlying2 h1
  obtain ⟨s, hs, _, ws⟩ := DataW.trod_string Tryd.underlying9 h2
  simp only [List.cons.injEq, and_true] at ha hb hs
  subst ha hb hs
  have ba := bounds_i64 wa
  have bb := bounds_i64 wb
  exact ⟨⟨a, b, s⟩, rfl, ⟨ba.1, by show a < _; omega, bb.1, by show b < _; omega, ws⟩⟩
set_option maxRecDepth 100000 in
theorem args_vals {H : Type} {enc : TypeId × Value → H} {W : World} {v : Value} {d : DataW H} {p : List MemPlace} {base : Nat} (okv : Value.okWide Tryd.prog W .any base 25 v)
    (h : DataW.Trod enc Tryd.prog W 0 (fun _ => true) true 25 v d p) : ∃ l, IsVals W v l ∧ FitsV l := by
  obtain ⟨a0, len, cap, rfl⟩ := okWide_slice Tryd.underlying25 okv
  obtain ⟨fuel, hf⟩ := h
  rcases Go.Deep.open_slice Tryd.underlying25 hf with ⟨hcs, hx⟩ | ⟨a, len', cap', m, n, D, Pl, hcs, hb, hl, hm, hmm, hx, hi⟩
  · have : a0 = none ∧ len = 0 ∧ cap = 0 := by simpa [Value.cells] using hcs
    obtain ⟨rfl, rfl, rfl⟩ := this
    exact ⟨[], .inl ⟨rfl, none, 0, rfl⟩, by simp [FitsV]⟩
  · have : a0 = some a ∧ len = len' ∧ cap = cap' := by simpa [Value.cells] using hcs
    obtain ⟨rfl, rfl, rfl⟩ := this
    rw [if_pos rfl] at hmm
    by_cases h0 : len = 0
    · subst h0
      exact ⟨[], .inl ⟨rfl, _, _, rfl⟩, by simp [FitsV]⟩
    · have hex : ∀ i, ∃ x : Val, i < len → x.Ok ∧ ∀ j u, (valCells x)[j]? = some u → W.cell? ((a.add (i * 3)).add j) = some u := by
        intro i
        by_cases hil : i < len
        · obtain ⟨cs', hc, ht⟩ := hi i (by omega)
          rw [cells_val] at hc
          obtain ⟨x, rfl, hok⟩ := val_fields ht
          obtain ⟨_, hcl, hat⟩ := World.cells?_some hc
          refine ⟨x, fun _ => ⟨hok, fun j u hj => ?_⟩⟩
          rw [hat j (by have := (List.getElem?_eq_some_iff.1 hj).1; simpa [valCells] using this), hj]
        · exact ⟨⟨0, 0, ⟨#[]⟩⟩, fun h => absurd h hil⟩
      obtain ⟨X, hX⟩ := Classical.axiomOfChoice hex
      have h00 := (hX 0 (by omega)).2 0 _ rfl
      obtain ⟨b, off, spot⟩ := a
      have hspot : spot = none := by simpa [Addr.add] using World.cell?_spot h00
      subst hspot
      have hlen : ((List.range len).map X).length = len := by simp
      refine ⟨(List.range len).map X, .inr ⟨b, off, cap, by rw [hlen], ?_, ?_⟩, by rw [hlen]; omega, ?_⟩
      · rw [Go.WideShapes.add_plain, Go.WideShapes.add_plain] at h00
        exact block_lt_of_cell h00
      · intro j x hj
        rw [List.getElem?_map] at hj
        have hjl : j < len := by
          rcases Nat.lt_or_ge j len with h' | h'
          · exact h'
          · rw [List.getElem?_eq_none (by simpa using h')] at hj; cases hj
        rw [List.getElem?_range hjl] at hj
        obtain rfl := Option.some.inj hj
        have := (hX j hjl).2
        simp only [Go.WideShapes.add_plain] at this
        refine ⟨this 0 _ rfl, this 1 _ rfl, this 2 _ rfl⟩
      · intro x hx
        obtain ⟨j, hj, rfl⟩ := List.mem_map.1 hx
        exact (hX j (List.mem_range.1 hj)).1
end Go.Proofs.YtaebhilgmmfalaaDoor
