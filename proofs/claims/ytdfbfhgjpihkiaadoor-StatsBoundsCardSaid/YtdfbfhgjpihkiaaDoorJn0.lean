/- Columns in memory: slices of them; plain Lean on joining. -/
import Derived.Test.YtdfbfhgjpihkiaaDoorBnd1
import Derived.Test.YtdfbfhgjpihkiaaDoorSlim
import Derived.Test.YtdfbfhgjpihkiaaDoorAppW
import Derived.Test.YtdfbfhgjpihkiaaDoorRow4
namespace Go.Proofs.YtdfbfhgjpihkiaaDoor
set_option linter.unusedVariables false
open Go Go.RowKit Go.ChangeShapes

/-- a slice of columns -/
def ColAt (w : World) (b o : Nat) (c : Col) : Prop := ∃ p q d, IsInts w p c.rep ∧ IsInts w q c.df ∧ IsVals w d c.vals ∧ ∀ j v, (colA c p q d)[j]? = some v → w.cell? ⟨b, o + j, none⟩ = some v
def IsCols (w : World) (v : Value) (l : List Col) : Prop :=
  (l = [] ∧ ∃ ad cap, v = .slice ad 0 cap) ∨ ∃ b off cap, v = .slice (some ⟨b, off, none⟩) l.length cap ∧ b < w.heap.size ∧ ∀ (j : Nat) (c : Col), l[j]? = some c → ColAt w b (off + j * 4) c
theorem ColAt.below {w w' : World} {b o : Nat} {c : Col} {B : Nat} (h : ColAt w b o c) (hb : Below B w w') (hB : w.heap.size ≤ B) (hl : b < w.heap.size) : ColAt w' b o c := by
  obtain ⟨p, q, d, h1, h2, h3, h4⟩ := h
  exact ⟨p, q, d, h1.below hb hB, h2.below hb hB, h3.below hb hB, fun j v hj => (hb.cell (p := ⟨b, o + j, none⟩) (Nat.lt_of_lt_of_le hl hB)).trans (h4 j v hj)⟩
theorem IsCols.below {w w' : World} {v : Value} {l : List Col} {B : Nat} (h : IsCols w v l) (hb : Below B w w') (hB : w.heap.size ≤ B) : IsCols w' v l := by
  rcases h with h | ⟨b, off, cap, h1, h2, h3⟩
  · exact .inl h
  · exact .inr ⟨b, off, cap, h1, Nat.lt_of_lt_of_le h2 hb.size, fun j c hj => (h3 j c hj).below hb hB h2⟩
theorem IsCols.form {w : World} {v : Value} {l : List Col} (h : IsCols w v l) : ∃ ad cap, v = .slice ad l.length cap := by
  rcases h with ⟨rfl, ad, cap, rfl⟩ | ⟨b, off, cap, rfl, _⟩
  · exact ⟨ad, cap, rfl⟩
  · exact ⟨_, cap, rfl⟩
theorem IsCols.at {w : World} {ad : Option Addr} {n cap : Nat} {l : List Col} (h : IsCols w (.slice ad n cap) l) (hl : 0 < l.length) :
    ∃ b off, ad = some ⟨b, off, none⟩ ∧ n = l.length ∧ b < w.heap.size ∧ ∀ (j : Nat) (c : Col), l[j]? = some c → ColAt w b (off + j * 4) c := by
  rcases h with ⟨rfl, _⟩ | ⟨b, off, cap', hv, h2, h3⟩
  · simp at hl
  · injection hv with e1 e2 e3
    exact ⟨b, off, e1, e2, h2, h3⟩
theorem Right.vals_leJ {f : Lf} {c : Col} (h : Right f c) : c.vals.length ≤ c.rep.length := by
  rw [← h.many, h.len]; exact List.length_filter_le _ _
/-- one behind the other -/
def joinC (id : Int) (l : List Col) : Col := ⟨id, l.flatMap Col.rep, l.flatMap Col.df, l.flatMap Col.vals⟩
theorem joinC_two (a b : Col) : joinC a.id [a, b] = a.app b := by simp [joinC, Col.app]
def GErr.isNil : GErr → Bool
  | .nil => true
  | _ => false
theorem GErr.isNil_iff (e : GErr) : e.isNil = true ↔ e = .nil := by cases e <;> simp [GErr.isNil]
def joinErr (f : Lf) (l : List Col) : GErr := match l.find? (fun c => !(colErr f c false).isNil) with
  | some c => colErr f c false
  | none => if 20000 < (l.flatMap Col.rep).length then .sent 2 else .nil
theorem own_cap' {w : World} {B n s : Nat} {e : TypeId} {v : Value} {xs : List Value} (h : w.ownsRow B e s v n xs) : ∃ m b c, v = .slice b m c := by
  obtain ⟨b, c, h1, -⟩ := own_cap h
  exact ⟨n, b, c, h1⟩
theorem own_cap3 {w : World} {B n s : Nat} {e : TypeId} {v : Value} {xs : List Value} (h : w.ownsRow B e s v n xs) : ∃ m b c, v = .slice b m c ∧ m = n ∧ m ≤ c := by
  obtain ⟨b, c, h1, h2⟩ := own_cap h
  exact ⟨n, b, c, h1, rfl, h2⟩
theorem flat_take_le {α β : Type} (g : α → List β) (l : List α) (j : Nat) (h : j < l.length) : ((l.take j).flatMap g).length + (g l[j]).length ≤ (l.flatMap g).length := by
  have e : l.flatMap g = (l.take j).flatMap g ++ (g l[j] ++ (l.drop (j + 1)).flatMap g) := by
    rw [← List.flatMap_cons, ← List.flatMap_append, ← List.drop_eq_getElem_cons h, List.take_append_drop]
  rw [e, List.length_append, List.length_append]
  omega
theorem flat_len_le {α β γ : Type} (g : α → List β) (k : α → List γ) : ∀ (l : List α), (∀ c ∈ l, (g c).length ≤ (k c).length) → (l.flatMap g).length ≤ (l.flatMap k).length
  | [], _ => Nat.le_refl _
  | c :: l, h => by
    rw [List.flatMap_cons, List.flatMap_cons, List.length_append, List.length_append]
    have h1 := h c (by simp)
    have h2 := flat_len_le g k l (fun x hx => h x (List.mem_cons_of_mem _ hx))
    omega
theorem col_info : (Tryd.prog.info? 27).map (·.size) = some 4 := by kernel_rfl
end Go.Proofs.YtdfbfhgjpihkiaaDoor
