/- Plain: the text of a record. -/
import Derived.Test.YthfljcpfcnddhaaGreatDoorDt0
import Derived.Lib.Join
namespace Go.Proofs.YthfljcpfcnddhaaGreatDoor
set_option linter.unusedVariables false
set_option linter.unusedSimpArgs false
open Go Go.RowKit

mutual
/-- the text of a datum; T: of a value -/
def dtxt (T : Val → List UInt8) : Nd → Bool → Dt → List UInt8
  | n, one, .mk no v l f =>
    if no = true then [110, 117, 108, 108]
    else if (!one && decide (n.rep = 3)) = true then [91] ++ Lib.join (dtxtL T n l) [44] ++ [93]
    else if n.kind ≠ 0 then T v
    else [123] ++ Lib.join (dtxtF T n.sub f) [44] ++ [125]
def dtxtL (T : Val → List UInt8) : Nd → List Dt → List (List UInt8)
  | _, [] => []
  | n, x :: r => dtxt T n true x :: dtxtL T n r
def dtxtF (T : Val → List UInt8) : List Nd → List Dt → List (List UInt8)
  | [], _ => []
  | _ :: _, [] => []
  | s :: t, x :: r => (s.name.data.toList ++ [58] ++ dtxt T s false x) :: dtxtF T t r
end
theorem dtxt_eq (T : Val → List UInt8) (n : Nd) (one : Bool) (d : Dt) : dtxt T n one d =
    if d.no = true then [110, 117, 108, 108]
    else if (!one && decide (n.rep = 3)) = true then [91] ++ Lib.join (dtxtL T n d.l) [44] ++ [93]
    else if n.kind ≠ 0 then T d.v
    else [123] ++ Lib.join (dtxtF T n.sub d.f) [44] ++ [125] := by
  cases d; simp only [dtxt]; rfl
theorem dtxtL_app (T : Val → List UInt8) (n : Nd) (a b : List Dt) : dtxtL T n (a ++ b) = dtxtL T n a ++ dtxtL T n b := by
  induction a with
  | nil => simp [dtxtL]
  | cons x r ih => simp only [List.cons_append, dtxtL, ih]
theorem dtxtL_len (T : Val → List UInt8) (n : Nd) (a : List Dt) : (dtxtL T n a).length = a.length := by
  induction a with
  | nil => simp [dtxtL]
  | cons x r ih => simp only [dtxtL, List.length_cons, ih]
theorem dtxtL_take (T : Val → List UInt8) (n : Nd) {l : List Dt} {k : Nat} {x : Dt} (h : l[k]? = some x) : dtxtL T n (l.take (k + 1)) = dtxtL T n (l.take k) ++ [dtxt T n true x] := by
  rw [List.take_add_one, h, dtxtL_app]
  simp [dtxtL]
theorem dtxtF_take (T : Val → List UInt8) : ∀ (s : List Nd) (l : List Dt) (k : Nat) (m : Nd) (x : Dt), s[k]? = some m → l[k]? = some x → dtxtF T (s.take (k + 1)) (l.take (k + 1)) = dtxtF T (s.take k) (l.take k) ++ [m.name.data.toList ++ [58] ++ dtxt T m false x]
  | [], _, k, m, x, h, _ => by simp at h
  | a :: t, [], k, m, x, _, h => by simp at h
  | a :: t, b :: r, 0, m, x, h0, h1 => by
    obtain rfl : a = m := by simpa using h0
    obtain rfl : b = x := by simpa using h1
    simp [dtxtF]
  | a :: t, b :: r, k + 1, m, x, h0, h1 => by
    have := dtxtF_take T t r k m x (by simpa using h0) (by simpa using h1)
    simp only [List.take_succ_cons, dtxtF, this, List.cons_append]
theorem dtxtF_len (T : Val → List UInt8) : ∀ (s : List Nd) (l : List Dt), s.length = l.length → (dtxtF T s l).length = l.length
  | [], l, h => by cases l with | nil => simp [dtxtF] | cons a r => simp at h
  | a :: t, [], h => by simp at h
  | a :: t, b :: r, h => by
    simp only [dtxtF, List.length_cons, dtxtF_len T t r (by simpa using h)]
theorem dtxtL_mem (T : Val → List UInt8) (n : Nd) {l : List Dt} {k : Nat} {x : Dt} (h : l[k]? = some x) : dtxt T n true x ∈ dtxtL T n l := by
  have h1 := dtxtL_take T n h
  have h2 : dtxtL T n l = dtxtL T n (l.take (k + 1)) ++ dtxtL T n (l.drop (k + 1)) := by rw [← dtxtL_app, List.take_append_drop]
  rw [h2, h1]; simp
theorem dtxtF_mem (T : Val → List UInt8) : ∀ (s : List Nd) (l : List Dt) (k : Nat) (m : Nd) (x : Dt), s[k]? = some m → l[k]? = some x → m.name.data.toList ++ [58] ++ dtxt T m false x ∈ dtxtF T s l
  | [], _, k, m, x, h, _ => by simp at h
  | a :: t, [], k, m, x, _, h => by simp at h
  | a :: t, b :: r, 0, m, x, h0, h1 => by
    obtain rfl : a = m := by simpa using h0
    obtain rfl : b = x := by simpa using h1
    simp [dtxtF]
  | a :: t, b :: r, k + 1, m, x, h0, h1 => by
    have := dtxtF_mem T t r k m x (by simpa using h0) (by simpa using h1)
    simp only [dtxtF]
    exact List.mem_cons_of_mem _ this
theorem lens_mem {x : List UInt8} : ∀ {xs : List (List UInt8)}, x ∈ xs → x.length ≤ Lib.lens xs
  | [], h => by cases h
  | a :: r, h => by
    simp only [Lib.lens, List.map_cons, List.sum_cons]
    rcases List.mem_cons.1 h with rfl | h
    · omega
    · have := lens_mem h; simp only [Lib.lens] at this; omega
theorem join_mem {x : List UInt8} {xs : List (List UInt8)} (sep : List UInt8) (h : x ∈ xs) : x.length ≤ (Lib.join xs sep).length := by
  cases xs with
  | nil => cases h
  | cons a r => rw [Lib.join_length]; have := lens_mem h; omega
end Go.Proofs.YthfljcpfcnddhaaGreatDoor
