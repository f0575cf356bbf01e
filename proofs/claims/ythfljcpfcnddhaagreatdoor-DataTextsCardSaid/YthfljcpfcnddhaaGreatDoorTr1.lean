/- Trees of nodes: plain Lean: a schema is right for the program where it is right for the document. -/
import Derived.Test.YthfljcpfcnddhaaGreatDoorTr0
namespace Go.Proofs.YthfljcpfcnddhaaGreatDoor
set_option linter.unusedVariables false
open Go Go.RowKit

/-- small letters, not too many -/
def isNm (s : ByteArray) : Bool := !s.data.toList.isEmpty && decide (s.size ≤ 12) && s.data.toList.all fun c => decide (97 ≤ c.toNat ∧ c.toNat ≤ 122)
def rootName : ByteArray := ⟨#[114, 111, 111, 116]⟩
def rootOk (n : Nd) : Bool := decide (n.id = 0) && decide (n.name = rootName) && decide (n.rep = 1) && decide (n.kind = 0) && !n.sub.isEmpty
def okShape (n : Nd) : Bool := decide (1 ≤ n.rep) && decide (n.rep ≤ 3) && decide (0 ≤ n.kind) && decide (n.kind ≤ 5) && (decide (n.kind ≠ 0) == n.sub.isEmpty)
/-- the program's walk through a group's names -/
def namesR : List ByteArray → List Nd → Bool
  | _, [] => true
  | s, x :: r => (isNm x.name && !s.any fun y => decide (y = x.name)) && namesR (s ++ [x.name]) r
/-- the program's walk through IDs -/
def idsG (n : Nd) (s : List Int) : Bool × List Int := (decide (1 ≤ n.id) && decide (n.id ≤ 1000) && !decide (n.id ∈ s), s ++ [n.id])
def runG {σ : Type} (g : Nd → σ → Bool × σ) : List Nd → σ → Bool × σ
  | [], s => (true, s)
  | n :: r, s => if (g n s).1 then runG g r (g n s).2 else (false, (g n s).2)
theorem runG_of {σ : Type} (f : Nd → Int → σ → Bool × σ) (g : Nd → σ → Bool × σ) : ∀ (L : List (Nd × Int)) (s : σ), (∀ x ∈ L, ∀ t, f x.1 x.2 t = g x.1 t) → runF f L s = runG g (L.map Prod.fst) s
  | [], s, h => rfl
  | (n, k) :: r, s, h => by
    have h1 : f n k s = g n s := h (n, k) (List.mem_cons_self ..) s
    simp only [runF, runG, List.map_cons, h1]
    rw [runG_of f g r _ fun x hx => h x (List.mem_cons_of_mem _ hx)]
theorem pre_nodes : (∀ n, ∀ k, (pre n k).map Prod.fst = nodes n) ∧ ∀ l, ∀ k, (preL l k).map Prod.fst = nodesL l := by
  refine tree2 (fun n h k => ?_) (fun k => rfl) (fun x r h1 h2 k => ?_)
  · rw [pre_eq, nodes_eq, List.map_cons, h]
  · simp only [preL, nodesL, List.map_append, h1, h2]
theorem pre_deep : (∀ n, ∀ k : Int, 1 ≤ k → k + hgt n ≤ 1000 → ∀ x ∈ pre n k, 1 ≤ x.2) ∧ ∀ l, ∀ k : Int, 1 ≤ k → k + hgtL l ≤ 1000 → ∀ x ∈ preL l k, 1 ≤ x.2 := by
  refine tree2 (fun n h k h1 h2 x hx => ?_) (fun k h1 h2 x hx => ?_) (fun y r ih1 ih2 k h1 h2 x hx => ?_)
  · rw [hgt_eq] at h2
    have hw : wrap64 (k + 1) = k + 1 := by unfold wrap64; omega
    rw [pre_eq, hw] at hx
    rcases List.mem_cons.1 hx with rfl | hx
    · exact h1
    · exact h (k + 1) (by omega) (by omega) x hx
  · simp [preL] at hx
  · simp only [hgtL] at h2
    simp only [preL, List.mem_append] at hx
    rcases hx with hx | hx
    · exact ih1 k h1 (by omega) x hx
    · exact ih2 k h1 (by omega) x hx
theorem runG_all {σ : Type} (p : Nd → Bool) : ∀ (l : List Nd) (s : σ), (runG (fun n s => (p n, s)) l s).1 = l.all p
  | [], s => rfl
  | n :: r, s => by
    simp only [runG, List.all_cons]
    by_cases h : p n = true
    · rw [if_pos h, runG_all p r, h, Bool.true_and]
    · rw [if_neg h]; simp [h]
/-- a walk that passes the root by -/
theorem run_below {σ : Type} (f : Nd → Int → σ → Bool × σ) (g : Nd → σ → Bool × σ) (n : Nd) (s : σ) (hg : goodB n = true) (h0 : f n 0 s = (true, s)) (h : ∀ x k t, 1 ≤ k → f x k t = g x t) : runF f (pre n 0) s = runG g (nodesL n.sub) s := by
  unfold goodB at hg; rw [decide_eq_true_iff, hgt_eq] at hg
  have hw : wrap64 (0 + 1) = 1 := by unfold wrap64; omega
  rw [pre_eq, hw]
  simp only [runF, h0, if_true]
  rw [runG_of f g _ _ fun x hx t => h x.1 x.2 t (pre_deep.2 n.sub 1 (by omega) (by omega) x hx), pre_nodes.2]
theorem run_all {σ : Type} (f : Nd → Int → σ → Bool × σ) (g : Nd → σ → Bool × σ) (n : Nd) (k : Int) (s : σ) (h : ∀ x k t, f x k t = g x t) : runF f (pre n k) s = runG g (nodes n) s := by
  rw [runG_of f g _ _ fun x _ t => h x.1 x.2 t, pre_nodes.1]
/-- the program's answer: 0, or an error's number -/
def validE (n : Nd) : Nat :=
  if goodB n then (if rootOk n then (if (nodesL n.sub).all okShape then (if (nodes n).all (fun x => namesR [] x.sub) then (if (runG idsG (nodesL n.sub) []).1 then 0 else 5) else 5) else 3) else 3) else 2

/-- the document's walk through names -/
def plNames : List Pl → List Pl → Bool
  | _, [] => true
  | s, p :: r => (isNm p.n.name && s.all fun q => !(decide (q.around = p.around) && decide (q.n.name = p.n.name))) && plNames (s ++ [p]) r
/-- the document's walk through IDs -/
def plIds : List Pl → List Pl → Bool
  | _, [] => true
  | s, p :: r => (decide (1 ≤ p.n.id) && decide (p.n.id ≤ 1000) && s.all fun q => decide (q.n.id ≠ p.n.id)) && plIds (s ++ [p]) r
/-- the document's answer -/
def schE (n : Nd) (L : List Pl) : Nat :=
  if (decide (L.length ≤ 40) && L.all fun p => decide (p.deep ≤ 6)) then (if rootOk n then (if L.tail.all (fun p => okShape p.n) then (if plNames [] L.tail then (if plIds [] L.tail then 0 else 5) else 5) else 3) else 3) else 2

theorem namesR_iff : ∀ (l : List Nd) (s : List ByteArray), namesR s l = true ↔ (∀ x ∈ l, isNm x.name = true) ∧ (∀ x ∈ l, x.name ∉ s) ∧ l.Pairwise (fun a b => a.name ≠ b.name)
  | [], s => by simp [namesR]
  | x :: r, s => by
    have hm : (s.any fun y => decide (y = x.name)) = false ↔ x.name ∉ s := by
      rw [List.any_eq_false]
      simp only [decide_eq_true_eq]
      exact ⟨fun h hx => h _ hx rfl, fun h y hy e => h (e ▸ hy)⟩
    simp only [namesR, Bool.and_eq_true, Bool.not_eq_true', hm, namesR_iff r, List.mem_cons, List.pairwise_cons, List.mem_append, List.not_mem_nil, or_false, forall_eq_or_imp, not_or]
    constructor
    · intro ⟨⟨h1, h2⟩, h3, h4, h5⟩
      exact ⟨⟨h1, h3⟩, ⟨h2, fun y hy => (h4 y hy).1⟩, fun y hy e => (h4 y hy).2 e.symm, h5⟩
    · intro ⟨⟨h1, h3⟩, ⟨h2, h4⟩, h5, h6⟩
      exact ⟨⟨h1, h2⟩, h3, fun y hy => ⟨h4 y hy, fun e => h5 y hy e.symm⟩, h6⟩
def PlR (a b : Pl) : Prop := ¬ (a.around = b.around ∧ a.n.name = b.n.name)
theorem plNames_iff : ∀ (l s : List Pl), plNames s l = true ↔ (∀ x ∈ l, isNm x.n.name = true) ∧ (∀ x ∈ l, ∀ y ∈ s, PlR y x) ∧ l.Pairwise PlR
  | [], s => by simp [plNames]
  | x :: r, s => by
    simp only [plNames, Bool.and_eq_true, List.all_eq_true, Bool.not_eq_true', Bool.and_eq_false_iff, decide_eq_false_iff_not, plNames_iff r, List.mem_cons, List.pairwise_cons, List.mem_append, List.not_mem_nil, or_false, forall_eq_or_imp]
    constructor
    · intro ⟨⟨h1, h2⟩, h3, h4, h5⟩
      exact ⟨⟨h1, h3⟩, ⟨fun y hy e => (h2 y hy).elim (fun h => h e.1) (fun h => h e.2), fun y hy z hz => h4 y hy z (.inl hz)⟩, fun y hy => h4 y hy x (.inr rfl), h5⟩
    · intro ⟨⟨h1, h3⟩, ⟨h2, h4⟩, h5, h6⟩
      refine ⟨⟨h1, fun y hy => ?_⟩, h3, fun y hy z hz => ?_, h6⟩
      · by_cases e : y.around = x.around
        · exact .inr fun e2 => h2 y hy ⟨e, e2⟩
        · exact .inl e
      · rcases hz with hz | rfl
        · exact h4 y hy z hz
        · exact h5 y hy
theorem plIds_iff : ∀ (l s : List Pl) (t : List Int), s.map (·.n.id) = t → plIds s l = (runG idsG (l.map Pl.n) t).1
  | [], s, t, h => rfl
  | x :: r, s, t, h => by
    simp only [plIds, List.map_cons, runG]
    have e : (idsG x.n t).1 = (decide (1 ≤ x.n.id) && decide (x.n.id ≤ 1000) && s.all fun q => decide (q.n.id ≠ x.n.id)) := by
      show (decide (1 ≤ x.n.id) && decide (x.n.id ≤ 1000) && !decide (x.n.id ∈ t)) = _
      congr 1
      subst h
      rw [Bool.eq_iff_iff]
      simp only [Bool.not_eq_true', decide_eq_false_iff_not, List.mem_map, not_exists, not_and, List.all_eq_true, decide_eq_true_eq, ne_eq]
    rw [e, plIds_iff r (s ++ [x]) (t ++ [x.n.id]) (by simp [h])]
    split
    · rename_i h1; rw [h1, Bool.true_and]; rfl
    · rename_i h1; rw [Bool.not_eq_true] at h1; rw [h1, Bool.false_and]
/-- what stands around the entries of a list -/
theorem plc_around : (∀ n, ∀ (q : Nat) (k ar : Int), ∀ e ∈ plc q n k ar, e.around = ar ∧ e.n = n ∨ (q : Int) ≤ e.around ∧ e.around < q + size n) ∧
    ∀ l, ∀ (q : Nat) (k ar : Int), ∀ e ∈ plcL q l k ar, e.around = ar ∧ e.n ∈ l ∨ (q : Int) ≤ e.around ∧ e.around < q + sizeL l := by
  refine tree2 (fun n h q k ar e he => ?_) (fun q k ar e he => ?_) (fun x r h1 h2 q k ar e he => ?_)
  · rw [plc_eq] at he; rw [size_eq]
    rcases List.mem_cons.1 he with rfl | he
    · exact .inl ⟨rfl, rfl⟩
    · rcases h _ _ _ e he with h | h
      · exact .inr (by omega)
      · exact .inr (by omega)
  · simp [plcL] at he
  · simp only [plcL, List.mem_append] at he
    simp only [sizeL]
    rcases he with he | he
    · rcases h1 _ _ _ e he with ⟨h, h'⟩ | h
      · exact .inl ⟨h, by rw [h']; exact List.mem_cons_self ..⟩
      · exact .inr (by omega)
    · rcases h2 _ _ _ e he with ⟨h, h'⟩ | h
      · exact .inl ⟨h, List.mem_cons_of_mem _ h'⟩
      · exact .inr (by omega)
theorem plcL_has (l : List Nd) : ∀ q (k ar : Int), ∀ y ∈ l, ∃ e ∈ plcL q l k ar, e.around = ar ∧ e.n = y := by
  induction l with
  | nil => intro q k ar y hy; simp at hy
  | cons x r ih =>
    intro q k ar y hy
    simp only [plcL, List.mem_append]
    rcases List.mem_cons.1 hy with rfl | hy
    · exact ⟨⟨y, k, ar⟩, .inl (by rw [plc_eq]; exact List.mem_cons_self ..), rfl, rfl⟩
    · obtain ⟨e, he, h⟩ := ih (q + size x) k ar y hy
      exact ⟨e, .inr he, h⟩
theorem names_plc : (∀ n, ∀ (q : Nat) (k ar : Int), ar < q → (plNames [] (plcL (q + 1) n.sub (k + 1) q) = (nodes n).all fun x => namesR [] x.sub)) ∧
    ∀ l, ∀ (q : Nat) (k ar : Int), ar < (q : Int) → (plNames [] (plcL q l k ar) = true ↔ namesR [] l = true ∧ (nodesL l).all (fun x => namesR [] x.sub) = true) := by
  refine tree2 (fun n h q k ar ha => ?_) (fun q k ar ha => ?_) (fun x r h1 h2 q k ar ha => ?_)
  · rw [Bool.eq_iff_iff, h _ _ _ (by omega), nodes_eq, List.all_cons, Bool.and_eq_true]
  · simp [plcL, plNames, namesR, nodesL]
  · have hx := h1 q k ar ha
    have hr := h2 (q + size x) k ar (by omega)
    rw [namesR_iff]
    rw [plNames_iff, namesR_iff] at hr
    rw [Bool.eq_iff_iff, plNames_iff] at hx
    rw [plNames_iff]
    simp only [plcL, nodesL, List.all_append, Bool.and_eq_true, plc_eq q x k ar, List.cons_append, List.mem_cons, List.mem_append, forall_eq_or_imp, List.pairwise_cons, List.pairwise_append, List.not_mem_nil, false_implies, implies_true, true_and, not_false_eq_true]
    simp only [List.not_mem_nil, false_implies, implies_true, true_and, not_false_eq_true] at hr hx
    constructor
    · intro ⟨⟨a1, a2⟩, a3, a4, a5, a6⟩
      obtain ⟨⟨b1, b2⟩, b3⟩ := hr.1 ⟨fun y hy => a2 y (.inr hy), a5⟩
      have b4 := hx.1 ⟨fun y hy => a2 y (.inl hy), a4⟩
      refine ⟨⟨⟨a1, b1⟩, ⟨fun y hy e => ?_, b2⟩⟩, b4, b3⟩
      obtain ⟨e1, he1, he2, he3⟩ := plcL_has r (q + size x) k ar y hy
      exact a3 e1 (.inr he1) ⟨he2.symm, by rw [he3]; exact e⟩
    · intro ⟨⟨⟨a1, b1⟩, a2, b2⟩, b4, b3⟩
      obtain ⟨c1, c2⟩ := hr.2 ⟨⟨b1, b2⟩, b3⟩
      obtain ⟨d1, d2⟩ := hx.2 b4
      refine ⟨⟨a1, fun y hy => hy.elim (d1 y) (c1 y)⟩, fun y hy e => ?_, d2, c2, fun y hy z hz e => ?_⟩
      · rcases hy with hy | hy
        · rcases plc_around.2 _ _ _ _ y hy with h | h
          · have := h.1; have := e.1; simp only at this; omega
          · have := e.1; simp only at this; omega
        · rcases plc_around.2 _ _ _ _ y hy with h | h
          · exact a2 y.n h.2 e.2
          · have := e.1; simp only at this; omega
      · have e1 := e.1
        have hs := size_eq x
        rcases plc_around.2 _ _ _ _ y hy with h | h <;> rcases plc_around.2 _ _ _ _ z hz with h' | h' <;> omega
/-- the program's answer is the document's -/
theorem valid_eq (n : Nd) : validE n = schE n (flatF [] n 1 (-1)) := by
  unfold validE schE
  rw [good_flat]
  by_cases hg : goodB n = true
  · rw [hg, flat_of_good hg]
    simp only [if_true, plc_eq, List.tail_cons]
    have h1 : (plcL (0 + 1) n.sub (1 + 1) (0 : Nat)).all (fun p => okShape p.n) = (nodesL n.sub).all okShape := by
      rw [← plc_nodes.2 n.sub (0 + 1) (1 + 1) (0 : Nat), List.all_map]; rfl
    rw [h1, names_plc.1 n 0 1 (-1) (by omega), plIds_iff _ [] [] rfl, plc_nodes.2]
  · rw [Bool.not_eq_true] at hg
    rw [hg]; rfl
end Go.Proofs.YthfljcpfcnddhaaGreatDoor
