/- Chapter 2 in plain Lean: runs of numbers. -/
import Derived.Test.YtddefnnimbjnaaaDoorBits3
import Derived.Test.YtddefnnimbjnaaaDoorWire4
namespace Go.Proofs.YtddefnnimbjnaaaDoor
set_option linter.unusedVariables false

/-- how many of the first are the same -/
def headRun : List Nat → Nat
  | [] => 0
  | a :: l => (l.takeWhile (· == a)).length + 1
theorem takeWhile_at {p : Nat → Bool} : ∀ (l : List Nat) (j : Nat), j < (l.takeWhile p).length → ∃ x, l[j]? = some x ∧ p x = true
  | [], j, h => by simp at h
  | a :: l, j, h => by
    rw [List.takeWhile_cons] at h
    split at h
    · cases j with
      | zero => exact ⟨a, rfl, by assumption⟩
      | succ j => exact takeWhile_at l j (by simpa using h)
    · simp at h
theorem takeWhile_stop {p : Nat → Bool} : ∀ (l : List Nat) (x : Nat), l[(l.takeWhile p).length]? = some x → p x = false
  | [], x, h => by simp at h
  | a :: l, x, h => by
    rw [List.takeWhile_cons] at h
    split at h
    · exact takeWhile_stop l x (by simpa using h)
    · simp at h; subst h; exact Bool.eq_false_iff.2 (by assumption)
theorem takeWhile_le {p : Nat → Bool} (l : List Nat) : (l.takeWhile p).length ≤ l.length := (List.takeWhile_sublist p).length_le
theorem headRun_le (l : List Nat) : headRun l ≤ l.length := by
  cases l with
  | nil => simp [headRun]
  | cons a l => have := takeWhile_le (p := (· == a)) l; simp [headRun]; omega
theorem headRun_pos (a : Nat) (l : List Nat) : 0 < headRun (a :: l) := by simp [headRun]
theorem headRun_at (a : Nat) (l : List Nat) (j : Nat) (h : j < headRun (a :: l)) : (a :: l)[j]? = some a := by
  cases j with
  | zero => rfl
  | succ j =>
    obtain ⟨x, h1, h2⟩ := takeWhile_at l j (by simp [headRun] at h; omega)
    rw [List.getElem?_cons_succ, h1, beq_iff_eq.1 h2]
theorem headRun_stop (a : Nat) (l : List Nat) (x : Nat) (h : (a :: l)[headRun (a :: l)]? = some x) : x ≠ a := by
  have := takeWhile_stop l x (p := (· == a)) (by simpa [headRun] using h)
  simpa using this
/-- the count that stands still is it -/
theorem headRun_eq (a : Nat) (l : List Nat) (c : Nat) (hc : c ≤ (a :: l).length) (h1 : c ≤ headRun (a :: l)) (h2 : c = (a :: l).length ∨ ∃ x, (a :: l)[c]? = some x ∧ x ≠ a) : c = headRun (a :: l) := by
  rcases h2 with h2 | ⟨x, h3, h4⟩
  · have := headRun_le (a :: l); omega
  · by_cases h : c < headRun (a :: l)
    · rw [headRun_at a l c h] at h3
      exact absurd (Option.some.inj h3).symm h4
    · omega

/-- eight numbers, with nothing behind them -/
def pad8 (l : List Nat) : List Nat := l.take 8 ++ List.replicate (8 - l.length) 0
theorem pad8_len (l : List Nat) : (pad8 l).length = 8 := by simp [pad8]; omega

def sizeB (wd : Nat) : Nat := (wd + 7) / 8
/-- a part of the second kind, if there is one -/
def flush (wd : Nat) (o : List Nat) : List UInt8 := if o = [] then [] else seven (2 * (o.length / 8) + 1) ++ packed wd o
/-- numbers as runs, some standing open before them -/
def runsB (wd : Nat) (l o : List Nat) : List UInt8 :=
  match l with
  | [] => flush wd o
  | a :: l => if 8 ≤ headRun (a :: l) then flush wd o ++ (seven (2 * headRun (a :: l)) ++ little (sizeB wd) a ++ runsB wd ((a :: l).drop (headRun (a :: l))) [])
    else runsB wd ((a :: l).drop 8) (o ++ pad8 (a :: l))
termination_by l.length
decreasing_by
  · simp only [List.length_drop, List.length_cons]; have := headRun_pos a l; omega
  · simp only [List.length_drop, List.length_cons]; omega
theorem runsB_nil (wd : Nat) (o : List Nat) : runsB wd [] o = flush wd o := by rw [runsB]
theorem runsB_run (wd a : Nat) (l o : List Nat) (h : 8 ≤ headRun (a :: l)) : runsB wd (a :: l) o = flush wd o ++ (seven (2 * headRun (a :: l)) ++ little (sizeB wd) a ++ runsB wd ((a :: l).drop (headRun (a :: l))) []) := by
  rw [runsB, if_pos h]
theorem runsB_open (wd a : Nat) (l o : List Nat) (h : headRun (a :: l) < 8) : runsB wd (a :: l) o = runsB wd ((a :: l).drop 8) (o ++ pad8 (a :: l)) := by
  rw [runsB, if_neg (by omega)]
theorem flush_nil (wd : Nat) : flush wd [] = [] := rfl
theorem flush_cons (wd : Nat) {o : List Nat} (h : o ≠ []) : flush wd o = seven (2 * (o.length / 8) + 1) ++ packed wd o := if_neg h

/-- runs read: the numbers, and how many bytes -/
def readR (wd left : Nat) (s : List UInt8) : Option (List Nat × Nat) :=
  if h0 : left = 0 then some ([], 0) else
  match readU s with
  | none => none
  | some (h, k) =>
    if h1 : h < 2 ∨ left < h / 2 then none
    else if h % 2 = 0 then
      if (s.drop k).length < sizeB wd ∨ 2 ^ wd ≤ unlittle ((s.drop k).take (sizeB wd)) then none
      else (readR wd (left - h / 2) (s.drop (k + sizeB wd))).map fun x => (List.replicate (h / 2) (unlittle ((s.drop k).take (sizeB wd))) ++ x.1, k + sizeB wd + x.2)
    else if (s.drop k).length < h / 2 * wd ∨ left + 8 ≤ 8 * (h / 2) ∨ ¬ ∀ x ∈ (getAll (unlittle (s.drop k)) wd (8 * (h / 2))).drop left, x = 0 then none
      else (readR wd (left - 8 * (h / 2)) (s.drop (k + h / 2 * wd))).map fun x => ((getAll (unlittle (s.drop k)) wd (8 * (h / 2))).take left ++ x.1, k + h / 2 * wd + x.2)
termination_by left
decreasing_by
  · omega
  · omega
theorem readR_zero (wd : Nat) (s : List UInt8) : readR wd 0 s = some ([], 0) := by rw [readR, dif_pos rfl]
theorem readR_none (wd left : Nat) (s : List UInt8) (h0 : 0 < left) (h : readU s = none) : readR wd left s = none := by rw [readR, dif_neg (by omega), h]
theorem readR_bad (wd left h k : Nat) (s : List UInt8) (h0 : 0 < left) (hU : readU s = some (h, k)) (h1 : h < 2 ∨ left < h / 2) : readR wd left s = none := by
  rw [readR, dif_neg (by omega), hU]; exact dif_pos h1
theorem readR_even_bad (wd left h k : Nat) (s : List UInt8) (h0 : 0 < left) (hU : readU s = some (h, k)) (h1 : ¬ (h < 2 ∨ left < h / 2)) (h2 : h % 2 = 0)
    (h3 : (s.drop k).length < sizeB wd ∨ 2 ^ wd ≤ unlittle ((s.drop k).take (sizeB wd))) : readR wd left s = none := by
  rw [readR, dif_neg (by omega), hU]; simp only; rw [dif_neg h1, if_pos h2, if_pos h3]
theorem readR_even (wd left h k : Nat) (s : List UInt8) (h0 : 0 < left) (hU : readU s = some (h, k)) (h1 : ¬ (h < 2 ∨ left < h / 2)) (h2 : h % 2 = 0)
    (h3 : ¬ ((s.drop k).length < sizeB wd ∨ 2 ^ wd ≤ unlittle ((s.drop k).take (sizeB wd)))) :
    readR wd left s = (readR wd (left - h / 2) (s.drop (k + sizeB wd))).map fun x => (List.replicate (h / 2) (unlittle ((s.drop k).take (sizeB wd))) ++ x.1, k + sizeB wd + x.2) := by
  rw [readR, dif_neg (by omega), hU]; simp only; rw [dif_neg h1, if_pos h2, if_neg h3]
theorem readR_odd_bad (wd left h k : Nat) (s : List UInt8) (h0 : 0 < left) (hU : readU s = some (h, k)) (h1 : ¬ (h < 2 ∨ left < h / 2)) (h2 : h % 2 = 1)
    (h3 : (s.drop k).length < h / 2 * wd ∨ left + 8 ≤ 8 * (h / 2) ∨ ¬ ∀ x ∈ (getAll (unlittle (s.drop k)) wd (8 * (h / 2))).drop left, x = 0) : readR wd left s = none := by
  rw [readR, dif_neg (by omega), hU]; simp only; rw [dif_neg h1, if_neg (by omega), if_pos h3]
theorem readR_odd (wd left h k : Nat) (s : List UInt8) (h0 : 0 < left) (hU : readU s = some (h, k)) (h1 : ¬ (h < 2 ∨ left < h / 2)) (h2 : h % 2 = 1)
    (h3 : ¬ ((s.drop k).length < h / 2 * wd ∨ left + 8 ≤ 8 * (h / 2) ∨ ¬ ∀ x ∈ (getAll (unlittle (s.drop k)) wd (8 * (h / 2))).drop left, x = 0)) :
    readR wd left s = (readR wd (left - 8 * (h / 2)) (s.drop (k + h / 2 * wd))).map fun x => ((getAll (unlittle (s.drop k)) wd (8 * (h / 2))).take left ++ x.1, k + h / 2 * wd + x.2) := by
  rw [readR, dif_neg (by omega), hU]; simp only; rw [dif_neg h1, if_neg (by omega), if_neg h3]
theorem flush_len (wd : Nat) (o : List Nat) (hw : wd ≤ 32) (ho : o.length < 1000000000) : (flush wd o).length ≤ 4 * o.length + 12 := by
  by_cases h : o = []
  · rw [h]; simp [flush_nil]
  · rw [flush_cons wd h, List.length_append, packed, bytesOf_len]
    have h1 : o.length * wd ≤ o.length * 32 := Nat.mul_le_mul_left _ hw
    have h2 := seven_len (show 2 * (o.length / 8) + 1 < 18446744073709551616 by omega)
    omega
theorem runsB_len (wd : Nat) (hw : wd ≤ 32) : ∀ (n : Nat) (l o : List Nat), l.length = n → 40 * l.length + 4 * o.length < 1000000000 → (runsB wd l o).length ≤ 40 * l.length + 4 * o.length + 12 := by
  intro n
  induction n using Nat.strongRecOn with
  | _ n ih =>
    intro l o hn hb
    cases l with
    | nil =>
      rw [runsB_nil]
      have := flush_len wd o hw (by omega)
      simp; omega
    | cons a l =>
      have hle := headRun_le (a :: l)
      have hpos := headRun_pos a l
      rw [List.length_cons] at hn hb ⊢
      by_cases hr : 8 ≤ headRun (a :: l)
      · rw [runsB_run wd a l o hr]
        have h1 := ih _ (by rw [List.length_drop, List.length_cons]; omega) ((a :: l).drop (headRun (a :: l))) [] rfl (by rw [List.length_drop, List.length_cons, List.length_nil]; omega)
        have h2 := flush_len wd o hw (by omega)
        rw [List.length_cons] at hle
        have h3 := seven_len (show 2 * headRun (a :: l) < 18446744073709551616 by omega)
        have h4 : sizeB wd ≤ 4 := by unfold sizeB; omega
        rw [List.length_drop, List.length_cons, List.length_nil] at h1
        simp only [List.length_append, little_len]
        omega
      · rw [runsB_open wd a l o (by omega)]
        have h1 := ih _ (by rw [List.length_drop, List.length_cons]; omega) ((a :: l).drop 8) (o ++ pad8 (a :: l)) rfl (by rw [List.length_drop, List.length_cons, List.length_append, pad8_len]; omega)
        rw [List.length_drop, List.length_cons, List.length_append, pad8_len] at h1
        omega
end Go.Proofs.YtddefnnimbjnaaaDoor
