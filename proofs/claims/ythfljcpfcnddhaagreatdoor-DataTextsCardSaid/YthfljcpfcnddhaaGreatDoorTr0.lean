/- Trees of nodes: plain Lean (Valid's and SchemaError's answer are the same). -/
import Derived.Test.YthfljcpfcnddhaaGreatDoorMPlain
namespace Go.Proofs.YthfljcpfcnddhaaGreatDoor
set_option linter.unusedVariables false
open Go Go.RowKit

/-- a node of a schema -/
inductive Nd where
  | mk (id : Int) (name : ByteArray) (rep kind : Int) (sub : List Nd)
namespace Nd
def id : Nd → Int | .mk a _ _ _ _ => a
def name : Nd → ByteArray | .mk _ b _ _ _ => b
def rep : Nd → Int | .mk _ _ c _ _ => c
def kind : Nd → Int | .mk _ _ _ d _ => d
def sub : Nd → List Nd | .mk _ _ _ _ l => l
theorem ind {P : Nd → Prop} (h : ∀ n, (∀ x ∈ n.sub, P x) → P n) : ∀ n, P n
  | .mk a b c d l => h _ fun x hx => ind h x
termination_by n => SizeOf.sizeOf n
decreasing_by
  have := List.sizeOf_lt_of_mem (show x ∈ l from hx)
  simp only [Nd.mk.sizeOf_spec]; omega
end Nd

mutual
/-- a node and what stands in it, in order, with how deep -/
def pre : Nd → Int → List (Nd × Int)
  | .mk a b c d l, k => (.mk a b c d l, k) :: preL l (wrap64 (k + 1))
def preL : List Nd → Int → List (Nd × Int)
  | [], _ => []
  | x :: r, k => pre x k ++ preL r k
end
theorem pre_eq (n : Nd) (k : Int) : pre n k = (n, k) :: preL n.sub (wrap64 (k + 1)) := by cases n; simp only [pre]; rfl
theorem preL_app (a b : List Nd) (k : Int) : preL (a ++ b) k = preL a k ++ preL b k := by
  induction a with
  | nil => rfl
  | cons x r ih => simp only [List.cons_append, preL, ih, List.append_assoc]
/-- gone through as long as it is wanted -/
def runF {σ : Type} (f : Nd → Int → σ → Bool × σ) : List (Nd × Int) → σ → Bool × σ
  | [], s => (true, s)
  | (n, k) :: r, s => if (f n k s).1 then runF f r (f n k s).2 else (false, (f n k s).2)
theorem runF_app {σ : Type} (f : Nd → Int → σ → Bool × σ) (a b : List (Nd × Int)) (s : σ) : runF f (a ++ b) s = if (runF f a s).1 then runF f b (runF f a s).2 else (false, (runF f a s).2) := by
  induction a generalizing s with
  | nil => simp [runF]
  | cons x r ih =>
    obtain ⟨n, k⟩ := x
    simp only [List.cons_append, runF]
    by_cases h : (f n k s).1 = true
    · simp only [h, if_true]; exact ih _
    · simp only [h]; simp

mutual
/-- how many nodes -/
def size : Nd → Nat
  | .mk _ _ _ _ l => 1 + sizeL l
def sizeL : List Nd → Nat
  | [] => 0
  | x :: r => size x + sizeL r
end
mutual
/-- how deep -/
def hgt : Nd → Nat
  | .mk _ _ _ _ l => 1 + hgtL l
def hgtL : List Nd → Nat
  | [] => 0
  | x :: r => max (hgt x) (hgtL r)
end
mutual
/-- all nodes, in order -/
def nodes : Nd → List Nd
  | .mk a b c d l => .mk a b c d l :: nodesL l
def nodesL : List Nd → List Nd
  | [] => []
  | x :: r => nodes x ++ nodesL r
end
theorem size_eq (n : Nd) : size n = 1 + sizeL n.sub := by cases n; simp only [size]; rfl
theorem hgt_eq (n : Nd) : hgt n = 1 + hgtL n.sub := by cases n; simp only [hgt]; rfl
theorem nodes_eq (n : Nd) : nodes n = n :: nodesL n.sub := by cases n; simp only [nodes]; rfl
/-- both, by induction -/
theorem tree2 {P : Nd → Prop} {Q : List Nd → Prop} (h0 : ∀ n, Q n.sub → P n) (h1 : Q []) (h2 : ∀ x r, P x → Q r → Q (x :: r)) : (∀ n, P n) ∧ ∀ l, Q l := by
  have hp : ∀ n, P n := by
    apply Nd.ind
    intro n ih
    apply h0
    generalize n.sub = l at ih
    induction l with
    | nil => exact h1
    | cons x r ihr => exact h2 x r (ih x (List.mem_cons_self ..)) (ihr fun y hy => ih y (List.mem_cons_of_mem _ hy))
  refine ⟨hp, fun l => ?_⟩
  induction l with
  | nil => exact h1
  | cons x r ihr => exact h2 x r (hp x) ihr
theorem size_len : (∀ n, (nodes n).length = size n) ∧ ∀ l, (nodesL l).length = sizeL l := by
  refine tree2 (fun n h => ?_) rfl (fun x r h1 h2 => ?_)
  · rw [nodes_eq, size_eq, List.length_cons, h]; omega
  · simp only [nodesL, sizeL, List.length_append, h1, h2]

/-- a place in the document's list -/
structure Pl where
  n : Nd
  deep : Int
  around : Int
mutual
/-- the document's list: at most so many -/
def flatF : List Pl → Nd → Int → Int → List Pl
  | l, .mk a b c d sub, k, ar => if 2000 < l.length ∨ 100 < k then l else flatFL (l ++ [⟨.mk a b c d sub, k, ar⟩]) sub (k + 1) l.length
def flatFL : List Pl → List Nd → Int → Int → List Pl
  | l, [], _, _ => l
  | l, x :: r, k, ar => flatFL (flatF l x k ar) r k ar
end
mutual
/-- .. and as it is where there are not too many -/
def plc : Nat → Nd → Int → Int → List Pl
  | p, .mk a b c d sub, k, ar => ⟨.mk a b c d sub, k, ar⟩ :: plcL (p + 1) sub (k + 1) p
def plcL : Nat → List Nd → Int → Int → List Pl
  | _, [], _, _ => []
  | p, x :: r, k, ar => plc p x k ar ++ plcL (p + size x) r k ar
end
theorem flatF_eq (l : List Pl) (n : Nd) (k ar : Int) : flatF l n k ar = if 2000 < l.length ∨ 100 < k then l else flatFL (l ++ [⟨n, k, ar⟩]) n.sub (k + 1) l.length := by cases n; simp only [flatF]; rfl
theorem plc_eq (p : Nat) (n : Nd) (k ar : Int) : plc p n k ar = ⟨n, k, ar⟩ :: plcL (p + 1) n.sub (k + 1) p := by cases n; simp only [plc]; rfl
theorem plc_nodes : (∀ n, ∀ p k ar, (plc p n k ar).map Pl.n = nodes n) ∧ ∀ l, ∀ p k ar, (plcL p l k ar).map Pl.n = nodesL l := by
  refine tree2 (fun n h p k ar => ?_) (fun p k ar => rfl) (fun x r h1 h2 p k ar => ?_)
  · rw [plc_eq, nodes_eq, List.map_cons, h]
  · simp only [plcL, nodesL, List.map_append, h1, h2]
theorem plc_len (n : Nd) (p : Nat) (k ar : Int) : (plc p n k ar).length = size n := by rw [← size_len.1, ← plc_nodes.1 n p k ar, List.length_map]
theorem plcL_len (l : List Nd) (p : Nat) (k ar : Int) : (plcL p l k ar).length = sizeL l := by rw [← size_len.2, ← plc_nodes.2 l p k ar, List.length_map]
/-- what is there stays ahead -/
theorem flat_pre : (∀ n, ∀ l k ar, l <+: flatF l n k ar) ∧ ∀ s, ∀ l k ar, l <+: flatFL l s k ar := by
  refine tree2 (fun n h l k ar => ?_) (fun l k ar => ?_) (fun x r h1 h2 l k ar => ?_)
  · rw [flatF_eq]
    split
    · exact List.prefix_refl _
    · exact (List.prefix_append l _).trans (h _ _ _)
  · simp only [flatFL]; exact List.prefix_refl _
  · simp only [flatFL]; exact (h1 _ _ _).trans (h2 _ _ _)
theorem flat_small : (∀ n, ∀ (l : List Pl) (k ar : Int), l.length + size n ≤ 2001 → k + hgt n ≤ 101 → flatF l n k ar = l ++ plc l.length n k ar) ∧
    ∀ s, ∀ (l : List Pl) (k ar : Int), l.length + sizeL s ≤ 2001 → k + hgtL s ≤ 101 → flatFL l s k ar = l ++ plcL l.length s k ar := by
  refine tree2 (fun n h l k ar h1 h2 => ?_) (fun l k ar _ _ => ?_) (fun x r ih1 ih2 l k ar h1 h2 => ?_)
  · rw [size_eq] at h1; rw [hgt_eq] at h2
    rw [flatF_eq, if_neg (by omega), h _ _ _ (by simp; omega) (by omega), plc_eq]
    simp
  · simp [flatFL, plcL]
  · simp only [sizeL] at h1; simp only [hgtL] at h2
    simp only [flatFL, plcL]
    rw [ih1 l k ar (by omega) (by omega), ih2 _ k ar (by simp [plc_len]; omega) (by omega)]
    simp [plc_len]
theorem flat_good : (∀ n, ∀ (l : List Pl) (k ar : Int), k ≤ 7 → (flatF l n k ar).length ≤ 40 → (∀ p ∈ flatF l n k ar, p.deep ≤ 6) → l.length + size n ≤ 40 ∧ k + hgt n ≤ 7) ∧
    ∀ s, ∀ (l : List Pl) (k ar : Int), k ≤ 7 → (flatFL l s k ar).length ≤ 40 → (∀ p ∈ flatFL l s k ar, p.deep ≤ 6) → l.length + sizeL s ≤ 40 ∧ k + hgtL s ≤ 7 := by
  refine tree2 (fun n h l k ar hk h1 h2 => ?_) (fun l k ar hk h1 h2 => ?_) (fun x r ih1 ih2 l k ar hk h1 h2 => ?_)
  · have hl := (flat_pre.1 n l k ar).length_le
    have hn : ¬ (2000 < l.length ∨ 100 < k) := by omega
    rw [flatF_eq, if_neg hn] at h1 h2
    have hm : (⟨n, k, ar⟩ : Pl) ∈ flatFL (l ++ [⟨n, k, ar⟩]) n.sub (k + 1) l.length := (flat_pre.2 n.sub (l ++ [⟨n, k, ar⟩]) (k + 1) l.length).subset (by simp)
    have h6 := h2 _ hm
    simp only at h6
    have := h _ _ _ (by omega) h1 h2
    rw [size_eq, hgt_eq]
    simp only [List.length_append, List.length_cons, List.length_nil] at this
    omega
  · simp only [flatFL] at h1; simp only [sizeL, hgtL]; omega
  · simp only [flatFL] at h1 h2
    have hp := flat_pre.2 r (flatF l x k ar) k ar
    have a := ih1 l k ar hk (Nat.le_trans hp.length_le h1) (fun p hp' => h2 p (hp.subset hp'))
    have e : flatF l x k ar = l ++ plc l.length x k ar := flat_small.1 x l k ar (by omega) (by omega)
    have b := ih2 _ k ar hk h1 h2
    rw [e, List.length_append, plc_len] at b
    simp only [sizeL, hgtL]
    omega
/-- not too many, not too deep -/
def goodB (n : Nd) : Bool := decide (size n ≤ 40 ∧ hgt n ≤ 6)
theorem plc_deep : (∀ n, ∀ p (k ar : Int), ∀ q ∈ plc p n k ar, k ≤ q.deep ∧ q.deep + 1 ≤ k + hgt n) ∧ ∀ l, ∀ p (k ar : Int), ∀ q ∈ plcL p l k ar, k ≤ q.deep ∧ q.deep + 1 ≤ k + hgtL l := by
  refine tree2 (fun n h p k ar q hq => ?_) (fun p k ar q hq => ?_) (fun x r h1 h2 p k ar q hq => ?_)
  · rw [plc_eq] at hq; rw [hgt_eq]
    rcases List.mem_cons.1 hq with rfl | hq
    · simp only; omega
    · have := h _ _ _ q hq; omega
  · simp [plcL] at hq
  · simp only [plcL, List.mem_append] at hq
    simp only [hgtL]
    rcases hq with hq | hq
    · have := h1 _ _ _ q hq; omega
    · have := h2 _ _ _ q hq; omega
theorem flat_of_good {n : Nd} (h : goodB n = true) : flatF [] n 1 (-1) = plc 0 n 1 (-1) := by
  unfold goodB at h; rw [decide_eq_true_iff] at h
  rw [flat_small.1 n [] 1 (-1) (by simp; omega) (by omega)]; rfl
/-- the document's first test -/
theorem good_flat (n : Nd) : (decide ((flatF [] n 1 (-1)).length ≤ 40) && (flatF [] n 1 (-1)).all fun p => decide (p.deep ≤ 6)) = goodB n := by
  rw [Bool.eq_iff_iff, Bool.and_eq_true, decide_eq_true_eq, List.all_eq_true]
  constructor
  · intro ⟨h1, h2⟩
    have := flat_good.1 n [] 1 (-1) (by omega) h1 fun p hp => by simpa using h2 p hp
    unfold goodB; rw [decide_eq_true_iff]
    simp at this; omega
  · intro h
    rw [flat_of_good h]
    unfold goodB at h; rw [decide_eq_true_iff] at h
    refine ⟨by rw [plc_len]; omega, fun p hp => ?_⟩
    have := plc_deep.1 n 0 1 (-1) p hp
    rw [decide_eq_true_iff]; omega
/-- the program's first walk -/
def cntF (n : Nd) (k : Int) (s : Int) : Bool × Int := (decide (wrap64 (s + 1) ≤ 40) && decide (k ≤ 6), wrap64 (s + 1))
theorem cnt_any : (∀ n, ∀ k s : Int, -100 ≤ k → k ≤ 7 → 0 ≤ s → s ≤ 40 → (runF cntF (pre n k) s).1 = decide (s + size n ≤ 40 ∧ k + hgt n ≤ 7) ∧ ((runF cntF (pre n k) s).1 = true → (runF cntF (pre n k) s).2 = s + size n)) ∧
    ∀ l, ∀ k s : Int, -100 ≤ k → k ≤ 7 → 0 ≤ s → s ≤ 40 → (runF cntF (preL l k) s).1 = decide (s + sizeL l ≤ 40 ∧ k + hgtL l ≤ 7) ∧ ((runF cntF (preL l k) s).1 = true → (runF cntF (preL l k) s).2 = s + sizeL l) := by
  refine tree2 (fun n h k s hk0 hk hs0 hs => ?_) (fun k s hk0 hk hs0 hs => ?_) (fun x r h1 h2 k s hk0 hk hs0 hs => ?_)
  · rw [pre_eq, size_eq, hgt_eq]
    simp only [runF]
    have hw' : wrap64 (s + 1) = s + 1 := by unfold wrap64; omega
    by_cases hc : s + 1 ≤ 40 ∧ k ≤ 6
    · have hw : wrap64 (k + 1) = k + 1 := by unfold wrap64; omega
      obtain ⟨a, b⟩ := h (k + 1) (s + 1) (by omega) (by omega) (by omega) (by omega)
      have e : (cntF n k s).1 = true := by simp [cntF, hc, hw']
      have e2 : (cntF n k s).2 = s + 1 := by simp [cntF, hw']
      rw [if_pos e, hw, e2]
      show (runF cntF (preL n.sub (k + 1)) (s + 1)).1 = _ ∧ ((runF cntF (preL n.sub (k + 1)) (s + 1)).1 = true → (runF cntF (preL n.sub (k + 1)) (s + 1)).2 = _)
      rw [a] at b ⊢
      refine ⟨?_, fun h => ?_⟩
      · congr 1; apply propext; omega
      · rw [b h]; omega
    · have e : (cntF n k s).1 = false := by simp only [cntF, hw']; rw [Bool.and_eq_false_iff, decide_eq_false_iff_not, decide_eq_false_iff_not]; omega
      rw [e]
      simp only [Bool.false_eq_true, if_false, false_implies, and_true]
      exact (decide_eq_false fun h => hc (by omega)).symm
  · simp only [preL, runF, sizeL, hgtL]
    exact ⟨(decide_eq_true ⟨by omega, by omega⟩).symm, fun _ => by omega⟩
  · simp only [preL, sizeL, hgtL]
    rw [runF_app]
    obtain ⟨a, b⟩ := h1 k s hk0 hk hs0 hs
    by_cases hc : s + size x ≤ 40 ∧ k + hgt x ≤ 7
    · have e : (runF cntF (pre x k) s).1 = true := by rw [a]; exact decide_eq_true hc
      rw [if_pos e, b e]
      obtain ⟨c, d⟩ := h2 k (s + size x) hk0 hk (by omega) (by omega)
      rw [c] at d ⊢
      refine ⟨?_, fun h => ?_⟩
      · congr 1; apply propext; omega
      · rw [d h]; omega
    · have e : (runF cntF (pre x k) s).1 = false := by rw [a]; exact decide_eq_false hc
      rw [e]
      simp only [Bool.false_eq_true, if_false, false_implies, and_true]
      exact (decide_eq_false fun h => hc (by omega)).symm
theorem good_cnt (n : Nd) : (runF cntF (pre n 1) 0).1 = goodB n := by
  rw [(cnt_any.1 n 1 0 (by omega) (by omega) (by omega) (by omega)).1]
  unfold goodB
  congr 1; apply propext; omega
end Go.Proofs.YthfljcpfcnddhaaGreatDoor
