/- Records (trees of datums): plain Lean: what is right for a node. -/
import Derived.Test.YthfljcpfcnddhaaGreatDoorTr2
import Derived.Test.YthfljcpfcnddhaaGreatDoorMVal
namespace Go.Proofs.YthfljcpfcnddhaaGreatDoor
set_option linter.unusedVariables false
set_option linter.unusedSimpArgs false
open Go Go.RowKit

/-- a datum of a node -/
inductive Dt where
  | mk (no : Bool) (v : Val) (l f : List Dt)
namespace Dt
def no : Dt → Bool | .mk a _ _ _ => a
def v : Dt → Val | .mk _ b _ _ => b
def l : Dt → List Dt | .mk _ _ c _ => c
def f : Dt → List Dt | .mk _ _ _ d => d
theorem ind {P : Dt → Prop} (h : ∀ d, (∀ x ∈ d.l, P x) → (∀ x ∈ d.f, P x) → P d) : ∀ d, P d
  | .mk a b c d => h _ (fun x hx => ind h x) (fun x hx => ind h x)
termination_by d => SizeOf.sizeOf d
decreasing_by
  · have := List.sizeOf_lt_of_mem (show x ∈ c from hx)
    simp only [Dt.mk.sizeOf_spec]; omega
  · have := List.sizeOf_lt_of_mem (show x ∈ d from hx)
    simp only [Dt.mk.sizeOf_spec]; omega
end Dt
def zeroV : Val := ⟨0, 0, ByteArray.empty⟩
/-- a value but the zero one? -/
def hasV (x : Val) : Bool := !valEq x zeroV

mutual
/-- what is wrong with a datum for a node: 0, or an error's number -/
def datE : Nd → Bool → Dt → Nat
  | n, one, .mk no v l f =>
    if (!one && decide (n.rep = 2) && no) = true then (if (hasV v || !l.isEmpty || !f.isEmpty) = true then 3 else 0)
    else if no = true then 3
    else if (!one && decide (n.rep = 3)) = true then (if (hasV v || !f.isEmpty) = true then 3 else if 40 < l.length then 2 else datEL n l)
    else if l.isEmpty = false then 3
    else if n.kind ≠ 0 then (if f.isEmpty = false then 3 else if okB n.kind v = true then 0 else 4)
    else if (hasV v || decide (f.length ≠ n.sub.length)) = true then 3
    else datEF n.sub f
def datEL : Nd → List Dt → Nat
  | _, [] => 0
  | n, x :: r => if datE n true x = 0 then datEL n r else datE n true x
def datEF : List Nd → List Dt → Nat
  | [], _ => 0
  | s :: t, [] => 0
  | s :: t, x :: r => if datE s false x = 0 then datEF t r else datE s false x
end
theorem datE_eq (n : Nd) (one : Bool) (d : Dt) : datE n one d =
    if (!one && decide (n.rep = 2) && d.no) = true then (if (hasV d.v || !d.l.isEmpty || !d.f.isEmpty) = true then 3 else 0)
    else if d.no = true then 3
    else if (!one && decide (n.rep = 3)) = true then (if (hasV d.v || !d.f.isEmpty) = true then 3 else if 40 < d.l.length then 2 else datEL n d.l)
    else if d.l.isEmpty = false then 3
    else if n.kind ≠ 0 then (if d.f.isEmpty = false then 3 else if okB n.kind d.v = true then 0 else 4)
    else if (hasV d.v || decide (d.f.length ≠ n.sub.length)) = true then 3
    else datEF n.sub d.f := by
  cases d; simp only [datE]; rfl
/-- a list of elements: by the first that is wrong -/
theorem datEL_take (n : Nd) : ∀ (l : List Dt) (k : Nat) (x : Dt), l[k]? = some x → (∀ (j : Nat) y, j < k → l[j]? = some y → datE n true y = 0) → datE n true x ≠ 0 → datEL n l = datE n true x
  | [], k, x, h, _, _ => by simp at h
  | a :: r, 0, x, h, _, hx => by
    obtain rfl : a = x := by simpa using h
    simp only [datEL]; rw [if_neg hx]
  | a :: r, k + 1, x, h, hj, hx => by
    simp only [datEL]
    rw [if_pos (hj 0 a (by omega) rfl)]
    exact datEL_take n r k x (by simpa using h) (fun j y hjk hy => hj (j + 1) y (by omega) (by simpa using hy)) hx
theorem datEL_all (n : Nd) : ∀ (l : List Dt), (∀ (j : Nat) y, l[j]? = some y → datE n true y = 0) → datEL n l = 0
  | [], _ => rfl
  | a :: r, h => by
    simp only [datEL]
    rw [if_pos (h 0 a rfl)]
    exact datEL_all n r fun j y hy => h (j + 1) y (by simpa using hy)
theorem datEF_take : ∀ (s : List Nd) (l : List Dt) (k : Nat) (n : Nd) (x : Dt), s[k]? = some n → l[k]? = some x → (∀ (j : Nat) m y, j < k → s[j]? = some m → l[j]? = some y → datE m false y = 0) → datE n false x ≠ 0 → datEF s l = datE n false x
  | [], _, k, n, x, h, _, _, _ => by simp at h
  | m :: t, [], k, n, x, _, h, _, _ => by simp at h
  | m :: t, a :: r, 0, n, x, h0, h, _, hx => by
    obtain rfl : a = x := by simpa using h
    obtain rfl : m = n := by simpa using h0
    simp only [datEF]; rw [if_neg hx]
  | m :: t, a :: r, k + 1, n, x, h0, h, hj, hx => by
    simp only [datEF]
    rw [if_pos (hj 0 m a (by omega) rfl rfl)]
    exact datEF_take t r k n x (by simpa using h0) (by simpa using h) (fun j m2 y hjk hm hy => hj (j + 1) m2 y (by omega) (by simpa using hm) (by simpa using hy)) hx
theorem datEF_all : ∀ (s : List Nd) (l : List Dt), (∀ (j : Nat) m y, s[j]? = some m → l[j]? = some y → datE m false y = 0) → datEF s l = 0
  | [], _, _ => by simp [datEF]
  | m :: t, [], _ => by simp [datEF]
  | m :: t, a :: r, h => by
    simp only [datEF]
    rw [if_pos (h 0 m a rfl rfl)]
    exact datEF_all t r fun j m2 y hm hy => h (j + 1) m2 y (by simpa using hm) (by simpa using hy)
theorem datEL_zero (n : Nd) : ∀ (l : List Dt), datEL n l = 0 → ∀ x ∈ l, datE n true x = 0
  | [], _, x, h => by cases h
  | a :: r, h, x, hx => by
    simp only [datEL] at h
    by_cases h0 : datE n true a = 0
    · rw [if_pos h0] at h
      rcases List.mem_cons.1 hx with rfl | hx
      · exact h0
      · exact datEL_zero n r h x hx
    · rw [if_neg h0] at h; exact absurd h h0
theorem datEF_zero : ∀ (s : List Nd) (l : List Dt), datEF s l = 0 → ∀ (k : Nat) (n : Nd) (x : Dt), s[k]? = some n → l[k]? = some x → datE n false x = 0
  | [], _, _, k, n, x, h, _ => by simp at h
  | m :: t, [], _, k, n, x, _, h => by simp at h
  | m :: t, a :: r, h, k, n, x, h0, h1 => by
    simp only [datEF] at h
    by_cases hz : datE m false a = 0
    · rw [if_pos hz] at h
      cases k with
      | zero => obtain rfl : a = x := by simpa using h1
                obtain rfl : m = n := by simpa using h0
                exact hz
      | succ k => exact datEF_zero t r h k n x (by simpa using h0) (by simpa using h1)
    · rw [if_neg hz] at h; exact absurd h hz
/-- is nothing set but what is named? -/
def bareB (d : Dt) (a b c e : Bool) : Bool := (a || !d.no) && (b || !hasV d.v) && (c || d.l.isEmpty) && (e || d.f.isEmpty)
theorem datE_none {n : Nd} {d : Dt} (h2 : n.rep = 2) (h3 : d.no = true) : datE n false d = if bareB d true false false false = true then 0 else 3 := by
  rw [datE_eq]; unfold bareB
  rw [if_pos (by simp [h2, h3])]
  cases hasV d.v <;> cases d.l.isEmpty <;> cases d.f.isEmpty <;> simp
theorem datE_list {n : Nd} {d : Dt} (h3 : n.rep = 3) : datE n false d = if bareB d false false true false = true then (if 40 < d.l.length then 2 else datEL n d.l) else 3 := by
  rw [datE_eq]; unfold bareB
  rw [if_neg (by simp [h3])]
  cases d.no <;> cases hasV d.v <;> cases d.f.isEmpty <;> simp [h3]
def lonely (n : Nd) (one : Bool) (d : Dt) : Prop := one = true ∨ n.rep = 1 ∨ (n.rep = 2 ∧ d.no = false)
theorem datE_leaf {n : Nd} {one : Bool} {d : Dt} (h : lonely n one d) (hk : n.kind ≠ 0) : datE n one d = if bareB d false true false false = true then (if okB n.kind d.v = true then 0 else 4) else 3 := by
  rw [datE_eq]; unfold bareB
  rcases h with rfl | h | ⟨h, h0⟩
  · cases d.no <;> cases d.l.isEmpty <;> cases d.f.isEmpty <;> simp [hk]
  · cases d.no <;> cases d.l.isEmpty <;> cases d.f.isEmpty <;> simp [hk, h]
  · cases d.l.isEmpty <;> cases d.f.isEmpty <;> simp [hk, h, h0]
theorem datE_group {n : Nd} {one : Bool} {d : Dt} (h : lonely n one d) (hk : n.kind = 0) : datE n one d = if bareB d false false false true = true then (if d.f.length = n.sub.length then datEF n.sub d.f else 3) else 3 := by
  rw [datE_eq]; unfold bareB
  rcases h with rfl | h | ⟨h, h0⟩
  · cases d.no <;> cases d.l.isEmpty <;> cases hasV d.v <;> by_cases hf : d.f.length = n.sub.length <;> simp [hk, hf]
  · cases d.no <;> cases d.l.isEmpty <;> cases hasV d.v <;> by_cases hf : d.f.length = n.sub.length <;> simp [hk, h, hf]
  · cases d.l.isEmpty <;> cases hasV d.v <;> by_cases hf : d.f.length = n.sub.length <;> simp [hk, h, h0, hf]
end Go.Proofs.YthfljcpfcnddhaaGreatDoor
