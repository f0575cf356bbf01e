/- A page: plain Lean. -/
import Derived.Test.YtdfbfhgjpihkiaaDoorBnd1
import Derived.Test.YtdfbfhgjpihkiaaDoorTx1
import Derived.Test.YtdfbfhgjpihkiaaDoorMBest
import Derived.Test.YtdfbfhgjpihkiaaDoorMRuns
import Derived.Test.YtdfbfhgjpihkiaaDoorMSum
import Derived.Test.YtdfbfhgjpihkiaaDoorBestC
namespace Go.Proofs.YtdfbfhgjpihkiaaDoor
set_option linter.unusedVariables false
open Go Go.RowKit Go.ChangeShapes

theorem nats_len (l : List Int) : (nats l).length = l.length := List.length_map _
/-- how wide levels are -/
def lwd (m : Int) : Nat := Lib.bitLen m.toNat
theorem lwd_fin : ∀ m : Fin 41, Lib.bitLen m.val ≤ 6 ∧ ∀ x : Fin 41, x.val ≤ m.val → x.val < 2 ^ Lib.bitLen m.val := by decide +kernel
theorem lwd_le {m : Int} (h0 : 0 ≤ m) (h : m ≤ 40) : lwd m ≤ 6 := (lwd_fin ⟨m.toNat, by omega⟩).1
theorem lwd_lt {m x : Int} (h0 : 0 ≤ m) (h : m ≤ 40) (x0 : 0 ≤ x) (hx : x ≤ m) : x.toNat < 2 ^ lwd m := (lwd_fin ⟨m.toNat, by omega⟩).2 ⟨x.toNat, by omega⟩ (by show x.toNat ≤ m.toNat; omega)
theorem levels_all {f : Lf} : ∀ (r d : List Int), r.length = d.length → levelsB f r d = true → (∀ x ∈ r, 0 ≤ x ∧ x ≤ f.mr) ∧ ∀ x ∈ d, 0 ≤ x ∧ x ≤ f.md
  | [], [], _, _ => ⟨fun x hx => (by cases hx), fun x hx => (by cases hx)⟩
  | x :: r, y :: d, hl, h => by
    simp only [List.length_cons] at hl
    simp only [levelsB, Bool.and_eq_true, decide_eq_true_iff] at h
    obtain ⟨⟨a1, a2, a3, a4⟩, h2⟩ := h
    obtain ⟨b1, b2⟩ := levels_all r d (by omega) h2
    refine ⟨fun z hz => ?_, fun z hz => ?_⟩
    · rcases List.mem_cons.1 hz with rfl | hz
      · exact ⟨a1, a2⟩
      · exact b1 z hz
    · rcases List.mem_cons.1 hz with rfl | hz
      · exact ⟨a3, a4⟩
      · exact b2 z hz
theorem Right.reps {f : Lf} {c : Col} (h : Right f c) : (∀ x ∈ c.rep, 0 ≤ x ∧ x ≤ f.mr) ∧ ∀ x ∈ c.df, 0 ≤ x ∧ x ≤ f.md := levels_all _ _ h.len h.lev
theorem Right.rep_lt {f : Lf} {c : Col} (h : Right f c) : ∀ x ∈ nats c.rep, x < 2 ^ lwd f.mr := by
  intro x hx
  obtain ⟨y, hy, rfl⟩ := List.mem_map.1 hx
  obtain ⟨a, b⟩ := h.reps.1 y hy
  exact lwd_lt h.r0 h.r40 a b
theorem Right.df_lt {f : Lf} {c : Col} (h : Right f c) : ∀ x ∈ nats c.df, x < 2 ^ lwd f.md := by
  intro x hx
  obtain ⟨y, hy, rfl⟩ := List.mem_map.1 hx
  obtain ⟨a, b⟩ := h.reps.2 y hy
  exact lwd_lt h.d0 h.d40 a b
theorem manyB_le (md : Int) (l : List Int) : many md l ≤ l.length := List.length_filter_le _ _
theorem Right.vals_le {f : Lf} {c : Col} (h : Right f c) : c.vals.length ≤ c.rep.length := by
  rw [← h.many, h.len]; exact manyB_le _ _
theorem Right.nil_vals {f : Lf} {c : Col} (h : Right f c) (hl : c.vals.length ≤ 20000) : valsErr f.kind c.vals = .nil := by
  unfold valsErr
  rw [if_neg (by have := h.k1; have := h.k5; omega), if_neg (by omega), (badAt_none f.kind c.vals 0).2 h.vals]
/-- the body of a page, and the page -/
def lev (m : Int) (l : List Int) : List UInt8 := textOf (runsB (lwd m) (nats l) [])
def bodyB (f : Lf) (c : Col) : List UInt8 := stText (knownSt c) ++ (lev f.mr c.rep ++ (lev f.md c.df ++ (UInt8.ofNat (bestB f.kind c.vals).1.toNat :: textOf (bestB f.kind c.vals).2)))
def pageOf (b : List UInt8) : List UInt8 := 80 :: (seven b.length ++ (little 4 (crc b) ++ b))
def pageB (f : Lf) (c : Col) : List UInt8 := pageOf (bodyB f c)
theorem crc_lt (l : List UInt8) : crc l < 4294967296 := Nat.xor_lt_two_pow (n := 32) (crcRaw_lt l) (by decide)
theorem zv_ok' : zv.Ok := ⟨by decide, by decide, by decide, by decide, by decide⟩
theorem stText_len (s : St) (h1 : s.lo.s.size ≤ 1000) (h2 : s.hi.s.size ≤ 1000) : (stText s).length ≤ 2100 ∨ s.e.toNat ≥ 18446744073709551616 ∨ s.n.toNat ≥ 18446744073709551616 := by
  by_cases he : s.e.toNat < 18446744073709551616
  · by_cases hn : s.n.toNat < 18446744073709551616
    · left
      have a1 := seven_len he
      have a2 := seven_len hn
      have b1 := plainB_one s.lo (by omega)
      have b2 := plainB_one s.hi (by omega)
      have c1 := textOf_length (plainB s.lo.k [s.lo]) (by omega)
      have c2 := textOf_length (plainB s.hi.k [s.hi]) (by omega)
      unfold stText oneText
      split
      · simp only [List.length_append, List.length_cons]; omega
      · simp only [List.length_append, List.length_cons, List.length_nil]; omega
    · right; right; omega
  · right; left; omega
theorem okP_size {k : Int} {x : Val} (h : OkP k x) : x.s.size ≤ 100 := by
  by_cases h4 : k = 4
  · exact (h.text h4).2
  · rw [h.num h4]; omega
theorem knownSt_ok {f : Lf} {c : Col} (co : c.Ok) (hr : Right f c) (hl : c.rep.length ≤ 20000) : (knownSt c).Ok ∧ (knownSt c).lo.s.size ≤ 100 ∧ (knownSt c).hi.s.size ≤ 100 := by
  have hv := hr.vals_le
  have hz : zv.Ok := zv_ok'
  have hlo : (loOf c.vals).Ok ∧ (loOf c.vals).s.size ≤ 100 := by
    by_cases hn : c.vals = []
    · rw [hn]; exact ⟨hz, by decide⟩
    · exact ⟨co.vals.2 _ (loOf_mem _ hn), okP_size (hr.vals _ (loOf_mem _ hn))⟩
  have hhi : (hiOf c.vals).Ok ∧ (hiOf c.vals).s.size ≤ 100 := by
    by_cases hn : c.vals = []
    · rw [hn]; exact ⟨hz, by decide⟩
    · exact ⟨co.vals.2 _ (hiOf_mem _ hn), okP_size (hr.vals _ (hiOf_mem _ hn))⟩
  refine ⟨⟨?_, ?_, ?_, ?_, hlo.1, hhi.1⟩, hlo.2, hhi.2⟩ <;> simp only [knownSt] <;> omega
theorem body_len {f : Lf} {c : Col} (co : c.Ok) (hr : Right f c) (hl : c.rep.length ≤ 1000) : (lev f.mr c.rep).length ≤ 40100 ∧ (lev f.md c.df).length ≤ 40100 ∧ (textOf (bestB f.kind c.vals).2).length ≤ 101100 ∧ (stText (knownSt c)).length ≤ 2100 ∧ (bodyB f c).length ≤ 190000 ∧ (runsB (lwd f.mr) (nats c.rep) []).length ≤ 40012 ∧ (runsB (lwd f.md) (nats c.df) []).length ≤ 40012 ∧ (bestB f.kind c.vals).2.length ≤ 101000 := by
  have hv := hr.vals_le
  obtain ⟨ko, k1, k2⟩ := knownSt_ok co hr (by omega)
  have a1 := runsB_len (lwd f.mr) (by have := lwd_le hr.r0 hr.r40; omega) _ (nats c.rep) [] rfl (by rw [nats_len]; simp; omega)
  have a2 := runsB_len (lwd f.md) (by have := lwd_le hr.d0 hr.d40; omega) _ (nats c.df) [] rfl (by rw [nats_len, ← hr.len]; simp; omega)
  rw [nats_len] at a1 a2
  rw [← hr.len] at a2
  simp only [List.length_nil] at a1 a2
  have b1 := textOf_length (runsB (lwd f.mr) (nats c.rep) []) (by omega)
  have b2 := textOf_length (runsB (lwd f.md) (nats c.df) []) (by omega)
  have d1 := plainB_len f.kind c.vals (fun h4 x hx => (okP_size (hr.vals x hx)))
  have d2 := (bestB_le f.kind c.vals).1
  have d3 := textOf_length (bestB f.kind c.vals).2 (by omega)
  have e1 : (stText (knownSt c)).length ≤ 2100 := by
    rcases stText_len (knownSt c) (by omega) (by omega) with h | h | h
    · exact h
    · exfalso; have := ko.e1; omega
    · exfalso; have := ko.n1; omega
  unfold lev
  refine ⟨by omega, by omega, by omega, e1, ?_, by omega, by omega, by omega⟩
  unfold bodyB lev
  simp only [List.length_append, List.length_cons]
  omega
theorem bestB_fst (kind : Int) (l : List Val) : 0 ≤ (bestB kind l).1 ∧ (bestB kind l).1 ≤ 3 := by
  have ht : ∀ (p : Int × List UInt8) (k : Int) (s : List UInt8), 0 ≤ p.1 ∧ p.1 ≤ 3 → 0 ≤ k ∧ k ≤ 3 → 0 ≤ (tryS p k s).1 ∧ (tryS p k s).1 ≤ 3 := by
    intro p k s h1 h2
    unfold tryS
    split <;> assumption
  unfold bestB best2
  split <;> (try split) <;> (repeat' (refine ht _ _ _ ?_ ?_)) <;> simp
end Go.Proofs.YtdfbfhgjpihkiaaDoor
