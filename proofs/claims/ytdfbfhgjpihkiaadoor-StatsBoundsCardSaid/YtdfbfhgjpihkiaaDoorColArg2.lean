/- A column that came in, opened, with the reach. -/
import Derived.Test.YtdfbfhgjpihkiaaDoorColArgs
import Derived.Test.YtdfbfhgjpihkiaaDoorSlim
import Derived.SizedLaws
import Derived.Deep.Slices
namespace Go.Proofs.YtdfbfhgjpihkiaaDoor
set_option linter.unusedVariables false
open Go Go.RowKit Go.ChangeShapes Go.WideShapes Go.ChangeAt

theorem bytes_int : Tryd.prog.bytesOf 3 = 8 := by kernel_rfl
theorem bytes_val : Tryd.prog.bytesOf 29 = 32 := by kernel_rfl
theorem ints_reach {H : Type} {enc : TypeId × Value → H} {W : World} {v : Value} {fuel : Nat} {z : DataW H × List MemPlace} (hf : DataW.trod enc Tryd.prog W 0 (fun _ => true) true fuel 22 [v] = some z) {l : List Int} (hI : IsInts W v l)
    (hw : ∀ n ∈ z.1.weights Tryd.prog 22, n ≤ reachBytes) : l.length * 8 ≤ 140737488355328 := by
  obtain ⟨ad, cp, rfl⟩ := hI.form
  rcases Go.Deep.open_slice Tryd.underlying22 hf with ⟨hcs, hx⟩ | ⟨a, len, cap, m, n, D, Pl, hcs, hb, hl, hm, hmm, rfl, hi⟩
  · simp at hcs
    rw [hcs.2.1]; simp
  · simp at hcs
    rw [if_pos rfl] at hmm
    have := hw ((((List.range len).map D).length + ((List.range (m - len)).map fun j => D (len + j)).length) * Tryd.prog.bytesOf 3) (by unfold DataW.weights; rw [Tryd.underlying22]; simp)
    rw [bytes_int] at this
    simp [reachBytes] at this
    omega
theorem vals_reach {H : Type} {enc : TypeId × Value → H} {W : World} {v : Value} {fuel : Nat} {z : DataW H × List MemPlace} (hf : DataW.trod enc Tryd.prog W 0 (fun _ => true) true fuel 25 [v] = some z) {l : List Val} (hI : IsVals W v l)
    (hw : ∀ n ∈ z.1.weights Tryd.prog 25, n ≤ reachBytes) : l.length * 32 ≤ 140737488355328 := by
  obtain ⟨ad, cp, rfl⟩ := hI.form
  rcases Go.Deep.open_slice Tryd.underlying25 hf with ⟨hcs, hx⟩ | ⟨a, len, cap, m, n, D, Pl, hcs, hb, hl, hm, hmm, rfl, hi⟩
  · simp at hcs
    rw [hcs.2.1]; simp
  · simp at hcs
    rw [if_pos rfl] at hmm
    have := hw ((((List.range len).map D).length + ((List.range (m - len)).map fun j => D (len + j)).length) * Tryd.prog.bytesOf 29) (by unfold DataW.weights; rw [Tryd.underlying25]; simp)
    rw [bytes_val] at this
    simp [reachBytes] at this
    omega
set_option maxRecDepth 100000 in
theorem args_colR {H : Type} {enc : TypeId × Value → H} {W : World} {v : Value} {d : DataW H} {p : List MemPlace} {base : Nat} (okv : Value.okWide Tryd.prog W .any base 27 v)
    (h : DataW.Trod enc Tryd.prog W 0 (fun _ => true) true 27 v d p) (hw : ∀ n ∈ d.weights Tryd.prog 27, n ≤ reachBytes) : ∃ c : Col, IsCol W v c ∧ c.Ok ∧ c.Reach := by
  obtain ⟨cs, rfl, hsz⟩ := okWide_struct Tryd.underlying27 okv
  obtain ⟨fuel, hf⟩ := h
  obtain ⟨xs, n, _, hd, hlen, hxl, hq⟩ := DataW.trod_struct Tryd.underlying27 hf
  rw [cells_col] at hlen
  have hl9 : cs.toList.length = 4 := by simpa [Value.cells] using hlen
  obtain ⟨L⟩ := cs
  simp only [Value.cells] at hq
  match L, hl9 with
  | [c0, c1, c2, c3], _ =>
    match xs, hxl with
    | [y0, y1, y2, y3], _ =>
      have f0 : DataW.trod enc Tryd.prog W 0 (fun _ => true) true n 3 [c0] = some y0 := field_of hq 0 _ rfl _ 0 1 rfl rfl cells_int1
      have f1 : DataW.trod enc Tryd.prog W 0 (fun _ => true) true n 22 [c1] = some y1 := field_of hq 1 _ rfl _ 1 1 rfl rfl cells_ints
      have f2 : DataW.trod enc Tryd.prog W 0 (fun _ => true) true n 22 [c2] = some y2 := field_of hq 2 _ rfl _ 2 1 rfl rfl cells_ints
      have f3 : DataW.trod enc Tryd.prog W 0 (fun _ => true) true n 25 [c3] = some y3 := field_of hq 3 _ rfl _ 3 1 rfl rfl cells_vals
      obtain ⟨a, ha, _, wa⟩ := DataW.trod_int Tryd.underlying3 f0
      have hdd := congrArg Prod.fst hd
      simp only [List.map_cons, List.map_nil] at hdd
      obtain ⟨k1, k2, k3⟩ : (∀ n ∈ y1.1.weights Tryd.prog 22, n ≤ reachBytes) ∧ (∀ n ∈ y2.1.weights Tryd.prog 22, n ≤ reachBytes) ∧ (∀ n ∈ y3.1.weights Tryd.prog 25, n ≤ reachBytes) := by
        have e : d.weights Tryd.prog 27 = y0.1.weights Tryd.prog 3 ++ (y1.1.weights Tryd.prog 22 ++ (y2.1.weights Tryd.prog 22 ++ (y3.1.weights Tryd.prog 25 ++ []))) := by
          rw [hdd]
          conv => lhs; unfold DataW.weights; rw [Tryd.underlying27]
          simp only [List.map_cons, List.map_nil, DataW.weightsEach]
        rw [e] at hw
        refine ⟨fun n hn => hw n ?_, fun n hn => hw n ?_, fun n hn => hw n ?_⟩ <;> simp [hn]
      obtain ⟨l1, h1, g1⟩ := ints_trod f1
      obtain ⟨l2, h2, g2⟩ := ints_trod f2
      obtain ⟨l3, h3, g3⟩ := vals_trod f3
      simp only [List.cons.injEq, and_true] at ha
      subst ha
      have ba := bounds_i64 wa
      exact ⟨⟨a, l1, l2, l3⟩, ⟨c1, c2, c3, rfl, h1, h2, h3⟩, ⟨ba.1, by show a < _; omega, g1, g2, g3⟩, ⟨ints_reach f1 h1 k1, ints_reach f2 h2 k2, vals_reach f3 h3 k3⟩⟩
end Go.Proofs.YtdfbfhgjpihkiaaDoor
