/- Plain: lists of leaves of a tree whose nodes have IDs of their own. -/
import Derived.Test.YtfmdahfolnljkaaDoorTa2
namespace Go.Proofs.YtfmdahfolnljkaaDoor
set_option linter.unusedVariables false
set_option linter.unusedSimpArgs false
open Go Go.RowKit Go.ChangeShapes

/-- two lists go together as far as they share -/
def Tri (x y : List Int) : Prop := ∀ (i : Nat) (d : Int), y[i]? = some d → (i < commonN x y ↔ d ∈ x)
theorem common_app (p a b : List Int) : commonN (p ++ a) (p ++ b) = p.length + commonN a b := by
  induction p with
  | nil => simp
  | cons h t ih => simp only [List.cons_append, commonN, if_true, ih, List.length_cons]; omega
theorem common_dis {a b : List Int} (h : ∀ d ∈ a, d ∉ b) : commonN a b = 0 := by
  cases a with
  | nil => simp [commonN]
  | cons x s =>
    cases b with
    | nil => simp [commonN]
    | cons y t =>
      have : x ≠ y := fun e => h x (List.mem_cons_self ..) (e ▸ List.mem_cons_self ..)
      simp [commonN, this]
theorem Tri.dis {a b : List Int} (h : ∀ d ∈ a, d ∉ b) : Tri a b := by
  intro i d hd
  rw [common_dis h]
  exact ⟨fun h => by omega, fun hm => absurd (List.mem_of_getElem? hd) (h d hm)⟩
theorem Tri.app {p a b : List Int} (h : Tri a b) (hp : ∀ d ∈ p, d ∉ b) : Tri (p ++ a) (p ++ b) := by
  intro i d hd
  rw [common_app]
  by_cases hi : i < p.length
  · rw [List.getElem?_append_left hi] at hd
    exact ⟨fun _ => List.mem_append_left _ (List.mem_of_getElem? hd), fun _ => by omega⟩
  · rw [List.getElem?_append_right (by omega)] at hd
    have h1 := h _ _ hd
    have hb := List.mem_of_getElem? hd
    constructor
    · intro h2; exact List.mem_append_right _ (h1.1 (by omega))
    · intro h2
      rcases List.mem_append.1 h2 with h2 | h2
      · exact absurd hb (hp d h2)
      · have := h1.2 h2; omega
theorem ls_pre : (∀ n, ∀ p q : List Int, lsN n (p ++ q) = (lsN n q).map (p ++ ·)) ∧ ∀ l, ∀ p q : List Int, lsL l (p ++ q) = (lsL l q).map (p ++ ·) := by
  refine tree2 (fun n h p q => ?_) (fun p q => rfl) (fun x r h1 h2 p q => ?_)
  · rw [lsN_eq, lsN_eq]
    split
    · split
      · rw [List.append_assoc, h]
      · rw [h]
    · split <;> simp
  · simp only [lsL, h1, h2, List.map_append]
theorem ls_ids : (∀ n, ∀ x ∈ lsN n [], ∀ d ∈ x, d ∈ (nodes n).map Nd.id) ∧ ∀ l, ∀ x ∈ lsL l [], ∀ d ∈ x, d ∈ (nodesL l).map Nd.id := by
  refine tree2 (fun n h x hx d hd => ?_) (fun x hx => by simp [lsL] at hx) (fun y r h1 h2 x hx d hd => ?_)
  · rw [lsN_eq] at hx
    rw [nodes_eq, List.map_cons]
    obtain ⟨q, hq⟩ : ∃ q : List Int, (if n.rep = 3 then [] ++ [n.id] else []) = q := ⟨_, rfl⟩
    have hq1 : ∀ e ∈ q, e = n.id := by rw [← hq]; split <;> simp
    rw [hq] at hx
    split at hx
    · have hp := ls_pre.2 n.sub q []
      rw [List.append_nil] at hp
      rw [hp] at hx
      obtain ⟨z, hz, rfl⟩ := List.mem_map.1 hx
      rcases List.mem_append.1 hd with hd | hd
      · exact hq1 d hd ▸ List.mem_cons_self ..
      · exact List.mem_cons_of_mem _ (h z hz d hd)
    · obtain rfl := List.mem_singleton.1 hx
      exact hq1 d hd ▸ List.mem_cons_self ..
  · simp only [lsL, nodesL, List.map_append] at hx ⊢
    rcases List.mem_append.1 hx with hx | hx
    · exact List.mem_append_left _ (h1 x hx d hd)
    · exact List.mem_append_right _ (h2 x hx d hd)
theorem tri_all : (∀ n, ((nodes n).map Nd.id).Nodup → ∀ x ∈ lsN n [], ∀ y ∈ lsN n [], Tri x y) ∧ ∀ l, ((nodesL l).map Nd.id).Nodup → ∀ x ∈ lsL l [], ∀ y ∈ lsL l [], Tri x y := by
  refine tree2 (fun n h hn x hx y hy => ?_) (fun hn x hx => by simp [lsL] at hx) (fun t r h1 h2 hn x hx y hy => ?_)
  · rw [nodes_eq, List.map_cons, List.nodup_cons] at hn
    rw [lsN_eq] at hx hy
    obtain ⟨q, hq⟩ : ∃ q : List Int, (if n.rep = 3 then [] ++ [n.id] else []) = q := ⟨_, rfl⟩
    have hq1 : ∀ e ∈ q, e = n.id := by rw [← hq]; split <;> simp
    rw [hq] at hx hy
    split at hx
    · rw [if_pos (by assumption)] at hy
      have hp := ls_pre.2 n.sub q []
      rw [List.append_nil] at hp
      rw [hp] at hx hy
      obtain ⟨z, hz, rfl⟩ := List.mem_map.1 hx
      obtain ⟨v, hv, rfl⟩ := List.mem_map.1 hy
      exact (h hn.2 z hz v hv).app fun d hd hd2 => hn.1 (hq1 d hd ▸ ls_ids.2 _ v hv d hd2)
    · rw [if_neg (by assumption)] at hy
      obtain rfl := List.mem_singleton.1 hx
      obtain rfl := List.mem_singleton.1 hy
      have := (Tri.dis (a := []) (b := []) (fun d hd => by cases hd)).app (p := y) (fun d _ h => by cases h)
      simpa using this
  · simp only [lsL, nodesL, List.map_append] at hx hy hn
    obtain ⟨hn1, hn2, hn3⟩ := List.nodup_append.1 hn
    rcases List.mem_append.1 hx with hx | hx <;> rcases List.mem_append.1 hy with hy | hy
    · exact h1 hn1 x hx y hy
    · exact Tri.dis fun d hd hd2 => hn3 _ (ls_ids.1 _ x hx d hd) _ (ls_ids.2 _ y hy d hd2) rfl
    · exact Tri.dis fun d hd hd2 => hn3 _ (ls_ids.1 _ y hy d hd2) _ (ls_ids.2 _ x hx d hd) rfl
    · exact h2 hn2 x hx y hy
theorem ids_nodup : ∀ (l : List Nd) (s : List Int), (runG idsG l s).1 = true → (l.map Nd.id).Nodup ∧ ∀ d ∈ s, d ∉ l.map Nd.id
  | [], s, _ => ⟨List.nodup_nil, fun d _ h => by cases h⟩
  | n :: r, s, h => by
    unfold runG at h
    split at h
    · rename_i h0
      simp only [idsG] at h h0
      have h1 : n.id ∉ s := by
        simp only [Bool.and_eq_true, Bool.not_eq_true', decide_eq_false_iff_not] at h0
        exact h0.2
      have ih := ids_nodup r (s ++ [n.id]) h
      refine ⟨List.nodup_cons.2 ⟨ih.2 n.id (List.mem_append_right _ (List.mem_singleton.2 rfl)), ih.1⟩, fun d hd hm => ?_⟩
      rcases List.mem_cons.1 hm with rfl | hm
      · exact h1 hd
      · exact ih.2 d (List.mem_append_left _ hd) hm
    · cases h
/-- the document's row -/
def toD (P : List (List Int)) (k r : Nat) : Int := if leastB P k < r then (((List.range P.length).find? fun t => decide (((P.getD k []).getD (r - 1) 0) ∈ P.getD t [])).getD 0 : Nat) else (k : Int) + 1
def rowD (P : List (List Int)) (k : Nat) : List Int := (List.range ((P.getD k []).length + 1)).map (toD P k)
theorem find_range_ext {p q : Nat → Bool} {n m : Nat} (hnm : n ≤ m) (h : ∀ i < n, p i = q i) (j : Nat) (hj : j < n) (hp : p j = true) : (List.range n).find? p = (List.range m).find? q := by
  have h1 : ((List.range n).find? p).isSome = true := by
    rw [List.find?_isSome]; exact ⟨j, List.mem_range.2 hj, hp⟩
  obtain ⟨i, hi⟩ := Option.isSome_iff_exists.1 h1
  rw [hi]
  symm
  rw [List.find?_range_eq_some] at hi ⊢
  obtain ⟨h2, h3, h4⟩ := hi
  have h3' := List.mem_range.1 h3
  exact ⟨by rw [← h i h3']; exact h2, List.mem_range.2 (by omega), fun t ht => by rw [← h t (by omega)]; exact h4 t ht⟩
theorem row_same {P : List (List Int)} (hT : ∀ x ∈ P, ∀ y ∈ P, Tri x y) (k : Nat) (hk : k < P.length) : rowB P k = rowD P k := by
  unfold rowB rowD
  refine List.map_congr_left fun r hr => ?_
  have hr' := List.mem_range.1 hr
  unfold toB toD
  split
  · rename_i hl
    have hget : ∀ t, t < P.length → P.getD t [] ∈ P := fun t ht => by
      rw [List.getD_eq_getElem?_getD, List.getElem?_eq_getElem ht]; exact List.getElem_mem ht
    have hown : (P.getD k [])[r - 1]? = some ((P.getD k []).getD (r - 1) 0) := by
      rw [List.getD_eq_getElem?_getD (l := P.getD k []), List.getElem?_eq_getElem (by omega)]; rfl
    have hiff : ∀ t < P.length, (r ≤ commonN (P.getD t []) (P.getD k []) ↔ (P.getD k []).getD (r - 1) 0 ∈ P.getD t []) := fun t ht => by
      have := hT _ (hget t ht) _ (hget k hk) (r - 1) _ hown
      rw [← this]; omega
    have hf : frst P k r = (List.range P.length).find? fun t => decide (((P.getD k []).getD (r - 1) 0) ∈ P.getD t []) := by
      unfold frst
      refine find_range_ext (by omega) (fun i hi => ?_) k (by omega) ?_
      · exact decide_eq_decide.2 (hiff i (by omega))
      · rw [decide_eq_true_iff, hiff k hk]; exact List.mem_of_getElem? hown
    have hs : ((List.range P.length).find? fun t => decide (((P.getD k []).getD (r - 1) 0) ∈ P.getD t [])).isSome = true := by
      rw [List.find?_isSome]
      exact ⟨k, List.mem_range.2 hk, by rw [decide_eq_true_iff]; exact List.mem_of_getElem? hown⟩
    obtain ⟨i, hi⟩ := Option.isSome_iff_exists.1 hs
    rw [hf, hi]; rfl
  · rfl
/-- of a right tree -/
theorem rows_same {n : Nd} (h : validE n = 0) (k : Nat) (hk : k < (lsL n.sub []).length) : rowB (lsL n.sub []) k = rowD (lsL n.sub []) k := by
  have hi : (runG idsG (nodesL n.sub) []).1 = true := by
    unfold validE at h
    repeat' split at h
    all_goals first | assumption | omega
  exact row_same (tri_all.2 n.sub (ids_nodup _ _ hi).1) k hk
end Go.Proofs.YtfmdahfolnljkaaDoor
