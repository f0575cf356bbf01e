/- Chapter 3 in plain Lean: texts by what they have in common; slices of texts in memory. -/
import Derived.Test.YtddefnnimbjnaaaDoorEnc3
namespace Go.Proofs.YtddefnnimbjnaaaDoor
set_option linter.unusedVariables false
open Go Go.RowKit Go.ChangeShapes

def lcp : List UInt8 → List UInt8 → Nat
  | a :: x, b :: y => if a = b then lcp x y + 1 else 0
  | _, _ => 0
theorem lcp_le : ∀ x y, lcp x y ≤ x.length ∧ lcp x y ≤ y.length
  | [], _ => by simp [lcp]
  | _ :: _, [] => by simp [lcp]
  | a :: x, b :: y => by
    have := lcp_le x y
    unfold lcp
    split <;> simp <;> omega
theorem lcp_at : ∀ (x y : List UInt8) (k : Nat), k < lcp x y → ∃ c, x[k]? = some c ∧ y[k]? = some c
  | [], _, k, h => by simp [lcp] at h
  | _ :: _, [], k, h => by simp [lcp] at h
  | a :: x, b :: y, k, h => by
    unfold lcp at h
    split at h
    · subst_vars
      cases k with
      | zero => exact ⟨_, rfl, rfl⟩
      | succ k => simpa using lcp_at x y k (by omega)
    · omega
theorem lcp_stop : ∀ (x y : List UInt8) (c d : UInt8), x[lcp x y]? = some c → y[lcp x y]? = some d → c ≠ d
  | [], _, c, d, h, _ => by simp at h
  | _ :: _, [], c, d, _, h => by simp at h
  | a :: x, b :: y, c, d, h1, h2 => by
    unfold lcp at h1 h2
    split at h1
    · rw [if_pos (by assumption)] at h2
      exact lcp_stop x y c d (by simpa using h1) (by simpa using h2)
    · rw [if_neg (by assumption)] at h2
      simp at h1 h2
      subst h1 h2
      assumption
/-- one text behind another one -/
def onePre (last s : List UInt8) : List UInt8 := seven (lcp s last) ++ textOf (s.drop (lcp s last))
def prefixB : List UInt8 → List (List UInt8) → List UInt8
  | _, [] => []
  | last, s :: l => onePre last s ++ prefixB s l
def lastOr : List UInt8 → List (List UInt8) → List UInt8
  | p, [] => p
  | _, s :: l => lastOr s l
theorem lastOr_snoc (s : List UInt8) : ∀ (l : List (List UInt8)) (p : List UInt8), lastOr p (l ++ [s]) = s
  | [], _ => rfl
  | a :: l, p => by rw [List.cons_append, lastOr, lastOr_snoc s l]
theorem prefixB_snoc (s : List UInt8) : ∀ (l : List (List UInt8)) (p : List UInt8), prefixB p (l ++ [s]) = prefixB p l ++ onePre (lastOr p l) s
  | [], p => by simp [prefixB, lastOr]
  | a :: l, p => by rw [List.cons_append, prefixB, prefixB_snoc s l, prefixB, lastOr, List.append_assoc]
theorem onePre_len (last s : List UInt8) (h : s.length ≤ 100) : (onePre last s).length ≤ 102 := by
  have h1 := (lcp_le s last).1
  unfold onePre
  rw [List.length_append, textOf_len _ (by rw [List.length_drop]; omega), seven_lt (by omega), List.length_drop]
  simp; omega
theorem prefixB_len : ∀ (l : List (List UInt8)) (p : List UInt8), (∀ s ∈ l, s.length ≤ 100) → (prefixB p l).length ≤ 102 * l.length
  | [], p, _ => by simp [prefixB]
  | a :: l, p, h => by
    have h1 := onePre_len p a (h a (by simp))
    have h2 := prefixB_len l a fun s hs => h s (by simp [hs])
    rw [prefixB, List.length_append, List.length_cons]
    omega

/-- a slice of texts -/
def IsStrs (w : World) (v : Value) (l : List ByteArray) : Prop :=
  (l = [] ∧ ∃ ad cap, v = .slice ad 0 cap) ∨ (∃ b off cap, v = .slice (some ⟨b, off, none⟩) l.length cap ∧ b < w.heap.size ∧ ∀ (j : Nat) (x : ByteArray), l[j]? = some x → w.cell? ⟨b, off + j, none⟩ = some (.string x))
theorem IsStrs.below {w w' : World} {v : Value} {l : List ByteArray} {B : Nat} (h : IsStrs w v l) (hb : Below B w w') (hB : w.heap.size ≤ B) : IsStrs w' v l := by
  rcases h with h | ⟨b, off, cap, rfl, hlt, hc⟩
  · exact .inl h
  · exact .inr ⟨b, off, cap, rfl, by have := hb.size; omega, fun j x hj => (hb.cell (p := ⟨b, off + j, none⟩) (by show b < B; omega)).trans (hc j x hj)⟩
theorem IsStrs.form {w : World} {v : Value} {l : List ByteArray} (h : IsStrs w v l) : ∃ ad cap, v = .slice ad l.length cap := by
  rcases h with ⟨rfl, h⟩ | ⟨b, off, cap, rfl, _⟩
  · exact h
  · exact ⟨_, _, rfl⟩
theorem IsStrs.at {w : World} {ad : Option Addr} {n cap : Nat} {l : List ByteArray} (h : IsStrs w (.slice ad n cap) l) (hl : 0 < l.length) :
    ∃ b off, ad = some ⟨b, off, none⟩ ∧ n = l.length ∧ b < w.heap.size ∧ ∀ (j : Nat) (x : ByteArray), l[j]? = some x → w.cell? ⟨b, off + j, none⟩ = some (.string x) := by
  rcases h with ⟨rfl, _⟩ | ⟨b, off, cap', he, hlt, hc⟩
  · simp at hl
  · injection he with e1 e2 e3
    exact ⟨b, off, e1, e2, hlt, hc⟩
def strV (s : ByteArray) : Value := .string s
theorem IsStrs.of_own {w : World} {B : Nat} {e : TypeId} {v : Value} {l : List ByteArray} (h : w.ownsRow B e 1 v l.length (l.map strV)) : IsStrs w v l := by
  rcases h.2 with ⟨rfl, h0⟩ | ⟨g, cap, cur, rfl, _, hg, _, _, _, _⟩
  · exact .inl ⟨List.eq_nil_of_length_eq_zero h0, none, 0, rfl⟩
  · refine .inr ⟨g, 0, cap, rfl, (Array.getElem?_eq_some_iff.1 hg).1, fun j x hj => ?_⟩
    have hlt : j < l.length := (List.getElem?_eq_some_iff.1 hj).1
    have := h.cellAt j (by omega)
    rw [Nat.zero_add, this]
    simp [hj, strV]
/-- such texts as Go can hold -/
def FitsS (l : List ByteArray) : Prop := l.length ≤ maxLen ∧ ∀ x ∈ l, x.size ≤ maxLen
def bytesL (l : List ByteArray) : List (List UInt8) := l.map fun x => x.data.toList
theorem ext_to_end (s : ByteArray) (a : Nat) : (s.extract a s.size).data.toList = s.data.toList.drop a := by
  rw [ba_extract]
  simp only []
  rw [List.take_of_length_le (by simp)]
end Go.Proofs.YtddefnnimbjnaaaDoor
