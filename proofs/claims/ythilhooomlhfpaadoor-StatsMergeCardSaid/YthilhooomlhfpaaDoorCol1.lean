/- Columns and leaves: plain Lean; in memory; the walk of shred.Right and of the document's IsLeaf. -/
import Derived.Test.YthilhooomlhfpaaDoorRow
import Derived.Test.YthilhooomlhfpaaDoorEncW5
import Derived.Test.YthilhooomlhfpaaDoorBitsW2
namespace Go.Proofs.YthilhooomlhfpaaDoor
set_option linter.unusedVariables false
open Go Go.RowKit Go.ChangeShapes

/-- a leaf of a schema -/
structure Lf where
  id : Int
  kind : Int
  mr : Int
  md : Int
  path : List Int
/-- a column -/
structure Col where
  id : Int
  rep : List Int
  df : List Int
  vals : List Val
structure Lf.Ok (f : Lf) : Prop where
  id0 : -9223372036854775808 ≤ f.id
  id1 : f.id < 9223372036854775808
  k0 : -9223372036854775808 ≤ f.kind
  k1 : f.kind < 9223372036854775808
  r0 : -9223372036854775808 ≤ f.mr
  r1 : f.mr < 9223372036854775808
  d0 : -9223372036854775808 ≤ f.md
  d1 : f.md < 9223372036854775808
  path : Fits f.path
structure Col.Ok (c : Col) : Prop where
  id0 : -9223372036854775808 ≤ c.id
  id1 : c.id < 9223372036854775808
  rep : Fits c.rep
  df : Fits c.df
  vals : c.vals.length ≤ maxLen ∧ ∀ x ∈ c.vals, x.Ok
def lfA (f : Lf) (p : Value) : Array Value := #[.int .i64 f.id, .int .i64 f.kind, .int .i64 f.mr, .int .i64 f.md, p]
def colA (c : Col) (a b d : Value) : Array Value := #[.int .i64 c.id, a, b, d]
/-- v is that leaf -/
def IsLf (w : World) (v : Value) (f : Lf) : Prop := ∃ p, v = .agg (lfA f p) ∧ IsInts w p f.path
/-- v is that column -/
def IsCol (w : World) (v : Value) (c : Col) : Prop := ∃ a b d, v = .agg (colA c a b d) ∧ IsInts w a c.rep ∧ IsInts w b c.df ∧ IsVals w d c.vals
theorem IsLf.below {w w' : World} {v : Value} {f : Lf} {B : Nat} (h : IsLf w v f) (hb : Below B w w') (hB : w.heap.size ≤ B) : IsLf w' v f := by
  obtain ⟨p, h1, h2⟩ := h
  exact ⟨p, h1, h2.below hb hB⟩
theorem IsCol.below {w w' : World} {v : Value} {c : Col} {B : Nat} (h : IsCol w v c) (hb : Below B w w') (hB : w.heap.size ≤ B) : IsCol w' v c := by
  obtain ⟨a, b, d, h1, h2, h3, h4⟩ := h
  exact ⟨a, b, d, h1, h2.below hb hB, h3.below hb hB, h4.below hb hB⟩

/-- a leaf that may be -/
def rightB (f : Lf) : Bool := decide (1 ≤ f.kind ∧ f.kind ≤ 5 ∧ 0 ≤ f.mr ∧ f.mr ≤ 40 ∧ 0 ≤ f.md ∧ f.md ≤ 40)
/-- levels that may be -/
def lvl (f : Lf) (r d : Int) : Prop := 0 ≤ r ∧ r ≤ f.mr ∧ 0 ≤ d ∧ d ≤ f.md
instance (f : Lf) (r d : Int) : Decidable (lvl f r d) := by unfold lvl; infer_instance
def levelsB (f : Lf) : List Int → List Int → Bool
  | r :: rs, d :: ds => decide (lvl f r d) && levelsB f rs ds
  | _, _ => true
/-- how many entries have a value -/
def many (md : Int) (l : List Int) : Nat := (l.filter fun d => d == md).length
/-- what stands ahead of the entries -/
def headB (f : Lf) (c : Col) (free : Bool) : Bool := rightB f && (decide (f.id = c.id) && (decide (c.rep.length = c.df.length) && (free || (c.rep.head?.getD 0 == 0))))
def shapeB (f : Lf) (c : Col) (free : Bool) : Bool := headB f c free && (levelsB f c.rep c.df && decide (many f.md c.df = c.vals.length))
def colErr (f : Lf) (c : Col) (free : Bool) : GErr := if shapeB f c free then (match badAt f.kind c.vals 0 with | .none => .nil | .some i => .fault 4 (i : Nat)) else .sent 3

set_option maxRecDepth 100000 in
set_option maxHeartbeats 4000000 in
theorem right_yes (f : Lf) (p : Value) (w : World) (h : rightB f = true) :
    Calls Tryd.prog 67 #[.agg #[.int .i64 f.id, .int .i64 f.kind, .int .i64 f.mr, .int .i64 f.md, p]] w fun e w' => e = .returned (.bool true) ∧ Below w.heap.size w w' := by
  obtain ⟨id, k, mr, md, pp⟩ := f
  unfold rightB at h
  rw [decide_eq_true_iff] at h
  obtain ⟨k1, k5, r0, r1, d0, d1⟩ := h
  simp only at k1 k5 r0 r1 d0 d1
  go_enter Tryd.func67, Tryd.ntmps67
  go_wp2
  go_ret
  exact ⟨ret_of (by simp), (Below.refl _ _).alloc (Nat.le_refl _) _⟩
set_option maxRecDepth 100000 in
set_option maxHeartbeats 4000000 in
theorem right_no (f : Lf) (p : Value) (w : World) (h : rightB f = false) :
    Calls Tryd.prog 67 #[.agg #[.int .i64 f.id, .int .i64 f.kind, .int .i64 f.mr, .int .i64 f.md, p]] w fun e w' => e = .returned (.bool false) ∧ Below w.heap.size w w' := by
  obtain ⟨id, k, mr, md, pp⟩ := f
  unfold rightB at h
  rw [decide_eq_false_iff_not] at h
  simp only at h
  by_cases k1 : 1 ≤ k
  · by_cases k5 : k ≤ 5
    · by_cases r0 : 0 ≤ mr
      · by_cases r1 : mr ≤ 40
        · by_cases d0 : 0 ≤ md
          · have d1 : ¬ md ≤ 40 := fun d1 => h ⟨k1, k5, r0, r1, d0, d1⟩
            clear h
            go_enter Tryd.func67, Tryd.ntmps67
            go_wp2
            go_ret
            exact ⟨ret_of (by simp), (Below.refl _ _).alloc (Nat.le_refl _) _⟩
          · clear h
            go_enter Tryd.func67, Tryd.ntmps67
            go_wp2
            go_ret
            exact ⟨ret_of (by simp), (Below.refl _ _).alloc (Nat.le_refl _) _⟩
        · clear h
          go_enter Tryd.func67, Tryd.ntmps67
          go_wp2
          go_ret
          exact ⟨ret_of (by simp), (Below.refl _ _).alloc (Nat.le_refl _) _⟩
      · clear h
        go_enter Tryd.func67, Tryd.ntmps67
        go_wp2
        go_ret
        exact ⟨ret_of (by simp), (Below.refl _ _).alloc (Nat.le_refl _) _⟩
    · clear h
      go_enter Tryd.func67, Tryd.ntmps67
      go_wp2
      go_ret
      exact ⟨ret_of (by simp), (Below.refl _ _).alloc (Nat.le_refl _) _⟩
  · clear h
    go_enter Tryd.func67, Tryd.ntmps67
    go_wp2
    go_ret
    exact ⟨ret_of (by simp), (Below.refl _ _).alloc (Nat.le_refl _) _⟩
set_option maxRecDepth 100000 in
set_option maxHeartbeats 4000000 in
theorem isLeaf_yes (f : Lf) (p : Value) (w : World) (h : rightB f = true) :
    Calls Tryd.prog 44 #[.agg #[.int .i64 f.id, .int .i64 f.kind, .int .i64 f.mr, .int .i64 f.md, p]] w fun e w' => e = .returned (.bool true) ∧ Below w.heap.size w w' := by
  obtain ⟨id, k, mr, md, pp⟩ := f
  unfold rightB at h
  rw [decide_eq_true_iff] at h
  obtain ⟨k1, k5, r0, r1, d0, d1⟩ := h
  simp only at k1 k5 r0 r1 d0 d1
  go_enter Tryd.func44, Tryd.ntmps44
  go_wp2
  go_ret
  exact ⟨ret_of (by simp), (Below.refl _ _).alloc (Nat.le_refl _) _⟩
set_option maxRecDepth 100000 in
set_option maxHeartbeats 4000000 in
theorem isLeaf_no (f : Lf) (p : Value) (w : World) (h : rightB f = false) :
    Calls Tryd.prog 44 #[.agg #[.int .i64 f.id, .int .i64 f.kind, .int .i64 f.mr, .int .i64 f.md, p]] w fun e w' => e = .returned (.bool false) ∧ Below w.heap.size w w' := by
  obtain ⟨id, k, mr, md, pp⟩ := f
  unfold rightB at h
  rw [decide_eq_false_iff_not] at h
  simp only at h
  by_cases k1 : 1 ≤ k
  · by_cases k5 : k ≤ 5
    · by_cases r0 : 0 ≤ mr
      · by_cases r1 : mr ≤ 40
        · by_cases d0 : 0 ≤ md
          · have d1 : ¬ md ≤ 40 := fun d1 => h ⟨k1, k5, r0, r1, d0, d1⟩
            clear h
            go_enter Tryd.func44, Tryd.ntmps44
            go_wp2
            go_ret
            exact ⟨ret_of (by simp), (Below.refl _ _).alloc (Nat.le_refl _) _⟩
          · clear h
            go_enter Tryd.func44, Tryd.ntmps44
            go_wp2
            go_ret
            exact ⟨ret_of (by simp), (Below.refl _ _).alloc (Nat.le_refl _) _⟩
        · clear h
          go_enter Tryd.func44, Tryd.ntmps44
          go_wp2
          go_ret
          exact ⟨ret_of (by simp), (Below.refl _ _).alloc (Nat.le_refl _) _⟩
      · clear h
        go_enter Tryd.func44, Tryd.ntmps44
        go_wp2
        go_ret
        exact ⟨ret_of (by simp), (Below.refl _ _).alloc (Nat.le_refl _) _⟩
    · clear h
      go_enter Tryd.func44, Tryd.ntmps44
      go_wp2
      go_ret
      exact ⟨ret_of (by simp), (Below.refl _ _).alloc (Nat.le_refl _) _⟩
  · clear h
    go_enter Tryd.func44, Tryd.ntmps44
    go_wp2
    go_ret
    exact ⟨ret_of (by simp), (Below.refl _ _).alloc (Nat.le_refl _) _⟩
end Go.Proofs.YthilhooomlhfpaaDoor
