/- Chapter 3 in plain Lean: unlike values and their places. -/
import Derived.Test.YtddefnnimbjnaaaDoorEncW4
import Derived.Test.YtddefnnimbjnaaaDoorEnc3
import Derived.Test.YtddefnnimbjnaaaDoorRuns1
import Derived.Test.YtddefnnimbjnaaaDoorBitsL1
import Derived.DeepKeys4
import Derived.Maps.OwnOps
import Derived.Maps.OwnSet
import Derived.Maps.Views
namespace Go.Proofs.YtddefnnimbjnaaaDoor
set_option linter.unusedVariables false
open Go Go.RowKit

/-- a value's place among some; so many if it is none of them -/
def posV (v : Val) : List Val → Nat
  | [] => 0
  | x :: l => if valEq x v then 0 else posV v l + 1
theorem posV_le (v : Val) : ∀ l, posV v l ≤ l.length
  | [] => Nat.le_refl _
  | x :: l => by
    have := posV_le v l
    unfold posV
    split <;> simp <;> omega
theorem posV_at (v : Val) : ∀ l, posV v l < l.length → l[posV v l]? = some v
  | [], h => by simp [posV] at h
  | x :: l, h => by
    unfold posV at h ⊢
    by_cases hx : valEq x v = true
    · rw [if_pos hx]
      obtain rfl := (valEq_iff x v).1 hx
      rfl
    · rw [if_neg hx] at h ⊢
      simpa using posV_at v l (by simpa using h)
theorem posV_before (v : Val) : ∀ l (j : Nat) (x : Val), j < posV v l → l[j]? = some x → valEq x v = false
  | [], j, x, h, _ => by simp [posV] at h
  | y :: l, j, x, h, hj => by
    unfold posV at h
    by_cases hx : valEq y v = true
    · rw [if_pos hx] at h; omega
    · rw [if_neg hx] at h
      cases j with
      | zero => simp at hj; subst hj; simpa using hx
      | succ j => exact posV_before v l j x (by omega) (by simpa using hj)
theorem posV_mem (v : Val) (l : List Val) : posV v l < l.length ↔ v ∈ l := by
  constructor
  · intro h; exact List.mem_of_getElem? (posV_at v l h)
  · intro h
    induction l with
    | nil => cases h
    | cons x l ih =>
      unfold posV
      by_cases hx : valEq x v = true
      · rw [if_pos hx]; simp
      · rw [if_neg hx]
        rcases List.mem_cons.1 h with rfl | h
        · exact absurd ((valEq_iff v v).2 rfl) hx
        · have := ih h; simp; omega
theorem posV_snoc (v x : Val) : ∀ l, posV v (l ++ [x]) = if posV v l < l.length then posV v l else if valEq x v then l.length else l.length + 1
  | [] => by simp [posV]
  | y :: l => by
    have ih := posV_snoc v x l
    rw [List.cons_append]
    unfold posV
    by_cases hy : valEq y v = true
    · rw [if_pos hy, if_pos hy, if_pos (by simp)]
    · rw [if_neg hy, if_neg hy, ih]
      simp only [List.length_cons, Nat.add_lt_add_iff_right]
      split
      · rfl
      · split <;> rfl
/-- the unlike ones so far, one value more -/
def addV (us : List Val) (v : Val) : List Val := if posV v us < us.length then us else us ++ [v]
def unlikeV : List Val → List Val → List Val
  | us, [] => us
  | us, v :: l => unlikeV (addV us v) l
def placesV : List Val → List Val → List Nat
  | _, [] => []
  | us, v :: l => posV v us :: placesV (addV us v) l
theorem unlikeV_snoc (v : Val) : ∀ (l us : List Val), unlikeV us (l ++ [v]) = addV (unlikeV us l) v
  | [], us => rfl
  | a :: l, us => by rw [List.cons_append, unlikeV, unlikeV_snoc v l, unlikeV]
theorem placesV_snoc (v : Val) : ∀ (l us : List Val), placesV us (l ++ [v]) = placesV us l ++ [posV v (unlikeV us l)]
  | [], us => rfl
  | a :: l, us => by rw [List.cons_append, placesV, placesV_snoc v l, placesV, unlikeV, List.cons_append]
theorem placesV_len : ∀ (l us : List Val), (placesV us l).length = l.length
  | [], _ => rfl
  | a :: l, us => by rw [placesV, List.length_cons, placesV_len l, List.length_cons]
theorem addV_len (us : List Val) (v : Val) : us.length ≤ (addV us v).length ∧ (addV us v).length ≤ us.length + 1 := by
  unfold addV
  split <;> simp
theorem unlikeV_len : ∀ (l us : List Val), us.length ≤ (unlikeV us l).length ∧ (unlikeV us l).length ≤ us.length + l.length
  | [], us => by simp [unlikeV]
  | a :: l, us => by
    have h1 := addV_len us a
    have h2 := unlikeV_len l (addV us a)
    rw [unlikeV, List.length_cons]
    omega
theorem posV_add (us : List Val) (v : Val) : posV v us < (addV us v).length := by
  have := posV_le v us
  unfold addV
  split
  · assumption
  · simp; omega
theorem placesV_lt : ∀ (l us : List Val), ∀ p ∈ placesV us l, p < (unlikeV us l).length
  | [], _, p, h => by cases h
  | a :: l, us, p, h => by
    rw [placesV] at h
    rw [unlikeV]
    rcases List.mem_cons.1 h with rfl | h
    · exact Nat.lt_of_lt_of_le (posV_add us a) (unlikeV_len l _).1
    · exact placesV_lt l _ p h
theorem addV_mem (us : List Val) (v x : Val) (h : x ∈ addV us v) : x ∈ us ∨ x = v := by
  unfold addV at h
  split at h
  · exact .inl h
  · simpa using h
theorem unlikeV_mem : ∀ (l us : List Val), ∀ x ∈ unlikeV us l, x ∈ us ∨ x ∈ l
  | [], us, x, h => .inl h
  | a :: l, us, x, h => by
    rcases unlikeV_mem l _ x h with h | h
    · rcases addV_mem us a x h with h | rfl
      · exact .inl h
      · exact .inr (by simp)
    · exact .inr (by simp [h])
/-- the width of places among so many -/
def placeW (n : Nat) : Nat := Lib.bitLen (n - 1)
def dictB (kind : Int) (l : List Val) : List UInt8 :=
  seven (unlikeV [] l).length ++ textOf (plainB kind (unlikeV [] l)) ++ runsB (placeW (unlikeV [] l).length) (placesV [] l) []

/-! ### values as keys of a map -/
theorem wf64 {n : Int} (h0 : -9223372036854775808 ≤ n) (h1 : n < 9223372036854775808) : (Lit.int .i64 n).wf = true := by
  have e1 : IntKind.i64.min = -9223372036854775808 := rfl
  have e2 : IntKind.i64.max = 9223372036854775807 := rfl
  simp only [Lit.wf, e1, e2, Bool.and_eq_true, decide_eq_true_eq]
  omega
theorem key_law : Maps.Keyed Tryd.prog 33 := Maps.Keyed.of_law (deep_law_laid (by kernel_rfl) (m := 2) (by omega) (by decide +kernel) (by kernel_rfl) (by kernel_rfl))
theorem key_some (x : Val) (h : x.Ok) : ∃ kl, Go.keyOf Tryd.prog 33 (.agg (valA x)) = some kl := by
  obtain ⟨m, hm⟩ : ∃ m, Tryd.prog.types.size = m + 1 := ⟨Tryd.prog.types.size - 1, by kernel_rfl⟩
  have hk : Tryd.prog.keyType 33 = true := by kernel_rfl
  have hc : Tryd.prog.cellsOf 33 = 3 := by kernel_rfl
  have c1 : Tryd.prog.cellsOf 3 = 1 := by kernel_rfl
  have c2 : Tryd.prog.cellsOf 2 = 1 := by kernel_rfl
  have c3 : Tryd.prog.cellsOf 9 = 1 := by kernel_rfl
  have u0 := Tryd.underlying33
  have u1 := Tryd.underlying3
  have u2 := Tryd.underlying2
  have u3 := Tryd.underlying9
  have w1 := wf64 h.k0 h.k1
  have w2 := wf64 h.n0 h.n1
  have w3 := h.s1
  unfold Go.keyOf valA
  rw [u0, hk, hm]
  simp [Value.formed, u0, hc, Program.keyLits, Value.cells, c1, c2, c3, u1, u2, u3, w1, w2, w3]

/-- the map holds each unlike value's place -/
def MapOf (us : List Val) (D : DataW Unit) : Prop :=
  Maps.IsMap D ∧ ∀ (x : Val) (kl : Lit), x.Ok → Go.keyOf Tryd.prog 33 (.agg (valA x)) = some kl →
    Maps.has D kl = decide (posV x us < us.length) ∧ (posV x us < us.length → ∀ z, D.atKey kl z = .lit (.int .i64 (posV x us : Nat)))
theorem MapOf.empty : MapOf [] (.map []) := ⟨Maps.isMap_empty, fun x kl _ _ => ⟨rfl, fun h => by simp at h⟩⟩
theorem MapOf.add {us : List Val} {D : DataW Unit} {v : Val} {kv : Lit} (h : MapOf us D) (hv : v.Ok) (hk : Go.keyOf Tryd.prog 33 (.agg (valA v)) = some kv) (hn : posV v us = us.length) :
    MapOf (us ++ [v]) (D.put kv (.lit (.int .i64 (us.length : Nat)))) := by
  refine ⟨h.1.put _ _, fun x kl hx hkl => ?_⟩
  have hlen : (us ++ [v]).length = us.length + 1 := by simp
  rw [posV_snoc, hlen]
  by_cases hxv : x = v
  · subst hxv
    obtain rfl : kl = kv := Option.some.inj (hkl.symm.trans hk)
    rw [if_neg (by omega), if_pos ((valEq_iff x x).2 rfl)]
    refine ⟨?_, fun _ z => Maps.atKey_put_same h.1 (key_law.key hk) _ _⟩
    rw [Maps.has_put_same h.1 (key_law.key hk)]
    simp
  · have hne : kl ≠ kv := fun e => hxv (by
      subst e
      have := key_law.inj hkl hk
      obtain ⟨a, b, c⟩ := x
      obtain ⟨a', b', c'⟩ := v
      simp only [valA, Value.agg.injEq] at this
      simpa using this)
    have hvx : valEq v x = false := by
      cases hh : valEq v x with
      | false => rfl
      | true => exact absurd ((valEq_iff v x).1 hh).symm hxv
    obtain ⟨h1, h2⟩ := h.2 x kl hx hkl
    rw [hvx, Maps.has_put_other hne, h1]
    have hle := posV_le x us
    by_cases hm : posV x us < us.length
    · rw [if_pos hm]
      refine ⟨by simp [hm]; omega, fun _ z => ?_⟩
      rw [Maps.atKey_put_other hne]
      exact h2 hm z
    · rw [if_neg hm]
      refine ⟨by simp; omega, fun hh => ?_⟩
      simp at hh
end Go.Proofs.YtddefnnimbjnaaaDoor
