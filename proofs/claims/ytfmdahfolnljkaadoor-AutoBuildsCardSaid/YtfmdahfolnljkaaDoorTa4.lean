/- Plain: the document's lists of a leaf are the program's. -/
import Derived.Test.YtfmdahfolnljkaaDoorTa3
import Derived.Test.YtfmdahfolnljkaaDoorTv5
namespace Go.Proofs.YtfmdahfolnljkaaDoor
set_option linter.unusedVariables false
set_option linter.unusedSimpArgs false
open Go Go.RowKit Go.ChangeShapes

theorem nodup_find {y : Nd} : ∀ l : List Nd, (l.map Nd.id).Nodup → y ∈ l → l.find? (fun x => decide (x.id = y.id)) = some y
  | [], _, h => by cases h
  | a :: l, hn, h => by
    rw [List.map_cons, List.nodup_cons] at hn
    rw [List.find?_cons]
    rcases List.mem_cons.1 h with rfl | h
    · simp
    · have : a.id ≠ y.id := fun e => hn.1 (e ▸ List.mem_map.2 ⟨y, h, rfl⟩)
      rw [decide_eq_false this]
      exact nodup_find l hn.2 h
theorem chn_mem : (∀ n, ∀ h : List Nd, ∀ g ∈ chn n h, ∀ y ∈ g, y ∈ h ∨ y ∈ nodes n) ∧ ∀ l, ∀ h : List Nd, ∀ g ∈ chnL l h, ∀ y ∈ g, y ∈ h ∨ y ∈ nodesL l := by
  refine tree2 (fun n ih h g hg y hy => ?_) (fun h g hg => by simp [chnL] at hg) (fun x r h1 h2 h g hg y hy => ?_)
  · rw [chn_eq] at hg
    rw [nodes_eq]
    have hq : ∀ z, z ∈ h ++ [n] → z ∈ h ∨ z ∈ n :: nodesL n.sub := fun z hz => by
      rcases List.mem_append.1 hz with hz | hz
      · exact .inl hz
      · exact .inr (List.mem_singleton.1 hz ▸ List.mem_cons_self ..)
    rcases List.mem_cons.1 hg with rfl | hg
    · exact hq y hy
    · rcases ih _ g hg y hy with h3 | h3
      · exact hq y h3
      · exact .inr (List.mem_cons_of_mem _ h3)
  · simp only [chnL, nodesL] at hg ⊢
    rcases List.mem_append.1 hg with hg | hg
    · rcases h1 h g hg y hy with h3 | h3
      · exact .inl h3
      · exact .inr (List.mem_append_left _ h3)
    · rcases h2 h g hg y hy with h3 | h3
      · exact .inl h3
      · exact .inr (List.mem_append_right _ h3)
theorem lsD_way {n : Nd} {F : List Pl} (hF : F.map Pl.n = nodes n) (hn : ((nodesL n.sub).map Nd.id).Nodup) (h0 : ∀ y ∈ nodesL n.sub, n.id ≠ y.id) : ∀ g : List Nd, (∀ y ∈ g, y ∈ nodesL n.sub) → lsD F (idsOf g) = rlOf g
  | [], _ => rfl
  | y :: g, h => by
    have ih := lsD_way hF hn h0 g fun z hz => h z (List.mem_cons_of_mem _ hz)
    have hy := h y (List.mem_cons_self ..)
    have hf : (findD F y.id).map Pl.n = some y := by
      unfold findD
      have h1 : (F.map Pl.n).find? (fun x => decide (x.id = y.id)) = (F.find? (fun p => decide (p.n.id = y.id))).map Pl.n := by rw [List.find?_map]; rfl
      rw [← h1, hF, nodes_eq, List.find?_cons, decide_eq_false (h0 y hy)]
      exact nodup_find _ hn hy
    obtain ⟨p, hp, hpy⟩ := Option.map_eq_some_iff.1 hf
    unfold lsD idsOf rlOf at ih ⊢
    rw [List.map_cons, List.flatMap_cons, ih]
    have h1 : lsD1 F y.id = if y.rep = 3 then [y.id] else [] := by unfold lsD1; rw [hp]; show (if p.n.rep = 3 then [p.n.id] else []) = _; rw [hpy]
    rw [h1, List.filter_cons]
    by_cases h3 : y.rep = 3
    · simp [h3]
    · simp [h3]
theorem filterMap_same {α β γ : Type} {f : α → Option β} {g : α → Option γ} {e : β → γ} : ∀ l : List α, (∀ x ∈ l, (f x).map e = g x) → (l.filterMap f).map e = l.filterMap g
  | [], _ => rfl
  | x :: l, h => by
    have h1 := h x (List.mem_cons_self ..)
    have ih := filterMap_same l fun y hy => h y (List.mem_cons_of_mem _ hy)
    rw [List.filterMap_cons, List.filterMap_cons]
    cases hf : f x with
    | none => rw [hf] at h1; rw [← h1]; exact ih
    | some b => rw [hf] at h1; rw [← h1]; simp [ih]
/-- the lists of the document's leaves, in order -/
theorem leaves_lists {n : Nd} {F : List Pl} (hF : F.map Pl.n = nodes n) (hn : ((nodesL n.sub).map Nd.id).Nodup) (h0 : ∀ y ∈ nodesL n.sub, n.id ≠ y.id) (hs : ∀ x ∈ nodesL n.sub, shaped x) :
    (leavesN n).map (fun f => lsD F f.path) = lsL n.sub [] := by
  have h1 := lv_chn.2 n.sub [] hs
  have h2 := ls_chn.2 n.sub [] hs
  have e0 : reps [] = 0 ∧ opts [] = 0 ∧ idsOf [] = [] ∧ rlOf [] = [] := ⟨rfl, rfl, rfl, rfl⟩
  rw [e0.1, e0.2.1, e0.2.2.1] at h1
  rw [e0.2.2.2] at h2
  unfold leavesN
  rw [h1, h2]
  refine filterMap_same _ fun x hx => ?_
  unfold lvOf lsOf
  split
  · rfl
  · show some (lsD F (idsOf x.2)) = some (rlOf x.2)
    rw [lsD_way hF hn h0 x.2 fun y hy => (chn_mem.2 n.sub [] x.2 (List.of_mem_zip hx).2 y hy).resolve_left (by simp)]
theorem ids_one : ∀ (l : List Nd) (s : List Int), (runG idsG l s).1 = true → ∀ y ∈ l, 1 ≤ y.id
  | [], _, _, y, h => by cases h
  | n :: r, s, h, y, hy => by
    unfold runG at h
    split at h
    · rename_i h0
      rcases List.mem_cons.1 hy with rfl | hy
      · simp only [idsG, Bool.and_eq_true, decide_eq_true_eq] at h0; exact h0.1.1
      · exact ids_one r _ h y hy
    · cases h
theorem valid_shaped {n : Nd} (h : validE n = 0) : ∀ x ∈ nodesL n.sub, shaped x := by
  intro x hx
  have := List.all_eq_true.1 (valid_facts h).2.2.1 x hx
  intro hk
  unfold okShape at this
  simp only [Bool.and_eq_true, beq_iff_eq, decide_eq_true hk] at this
  have h2 := this.2
  exact List.isEmpty_iff.1 h2.symm
theorem valid_lists {n : Nd} (h : validE n = 0) : (leavesN n).map (fun f => lsD (flatF [] n 1 (-1)) f.path) = lsL n.sub [] := by
  obtain ⟨h1, h2, h3, h4⟩ := valid_facts h
  unfold goodB at h1
  rw [decide_eq_true_iff] at h1
  have hid : n.id = 0 := by
    unfold rootOk at h2
    simp only [Bool.and_eq_true, decide_eq_true_eq] at h2
    exact h2.1.1.1.1
  refine leaves_lists ?_ (ids_nodup _ _ h4).1 (fun y hy => ?_) (valid_shaped h)
  · rw [flat_small.1 n [] 1 (-1) (by simp; omega) (by omega)]
    exact plc_nodes.1 n 0 1 (-1)
  · have := ids_one _ _ h4 y hy; omega
end Go.Proofs.YtfmdahfolnljkaaDoor
