/- Trees of nodes: plain Lean: leaves; which leaf is read next. -/
import Derived.Test.YthfljcpfcnddhaaGreatDoorTr1
namespace Go.Proofs.YthfljcpfcnddhaaGreatDoor
set_option linter.unusedVariables false
set_option linter.unusedSimpArgs false
open Go Go.RowKit

mutual
/-- of each node in a node what leads to it (itself the last), behind what stands ahead -/
def chn : Nd → List Nd → List (List Nd)
  | .mk a b c d l, h => (h ++ [.mk a b c d l]) :: chnL l (h ++ [.mk a b c d l])
def chnL : List Nd → List Nd → List (List Nd)
  | [], _ => []
  | x :: r, h => chn x h ++ chnL r h
end
theorem chn_eq (n : Nd) (h : List Nd) : chn n h = (h ++ [n]) :: chnL n.sub (h ++ [n]) := by cases n; simp only [chn]; rfl
theorem chn_len : (∀ n, ∀ h, (chn n h).length = size n) ∧ ∀ l, ∀ h, (chnL l h).length = sizeL l := by
  refine tree2 (fun n ih h => ?_) (fun h => rfl) (fun x r h1 h2 h => ?_)
  · rw [chn_eq, size_eq, List.length_cons, ih]; omega
  · simp only [chnL, sizeL, List.length_append, h1, h2]
/-- each one's way is that of what is around it, and itself -/
def Chd : List (List Nd) → List Pl → List (List Nd) → Prop
  | _, [], [] => True
  | C, e :: E, d :: D => (∃ a : Nat, e.around = a ∧ a < C.length ∧ d = (C[a]?).getD [] ++ [e.n]) ∧ Chd (C ++ [d]) E D
  | _, _, _ => False
theorem Chd.app : ∀ (C : List (List Nd)) (A B : List Pl) (DA DB : List (List Nd)), Chd C A DA → Chd (C ++ DA) B DB → Chd C (A ++ B) (DA ++ DB)
  | C, [], B, [], DB, _, h2 => by simpa using h2
  | C, e :: E, B, d :: D, DB, h1, h2 => by
    simp only [List.cons_append, Chd] at h1 ⊢
    exact ⟨h1.1, Chd.app _ E B D DB h1.2 (by simpa using h2)⟩
  | C, [], B, d :: D, DB, h1, _ => by simp [Chd] at h1
  | C, e :: E, B, [], DB, h1, _ => by simp [Chd] at h1
theorem chd_plc : (∀ n, ∀ (q : Nat) (k : Int) (a : Nat) (C : List (List Nd)) (h : List Nd), C.length = q → a < q → C[a]? = some h → Chd C (plc q n k a) (chn n h)) ∧
    ∀ l, ∀ (q : Nat) (k : Int) (a : Nat) (C : List (List Nd)) (h : List Nd), C.length = q → a < q → C[a]? = some h → Chd C (plcL q l k a) (chnL l h) := by
  refine tree2 (fun n ih q k a C h hC ha hg => ?_) (fun q k a C h hC ha hg => ?_) (fun x r h1 h2 q k a C h hC ha hg => ?_)
  · rw [plc_eq, chn_eq]
    refine ⟨⟨a, rfl, by omega, by rw [hg]; rfl⟩, ?_⟩
    exact ih (q + 1) (k + 1) q _ _ (by simp [hC]) (by omega) (by rw [List.getElem?_append_right (by omega), hC]; simp)
  · simp [plcL, chnL, Chd]
  · simp only [plcL, chnL]
    refine Chd.app _ _ _ _ _ (h1 q k a C h hC ha hg) ?_
    exact h2 (q + size x) k a _ h (by rw [List.length_append, chn_len.1, hC]) (by omega) (by rw [List.getElem?_append_left (by omega)]; exact hg)
/-- .. at an index -/
theorem Chd.at : ∀ (E : List Pl) (C D : List (List Nd)), Chd C E D → D.length = E.length ∧ ∀ (j : Nat) (e : Pl), E[j]? = some e → ∃ (a : Nat) (d : List Nd), e.around = a ∧ a < C.length + j ∧ D[j]? = some (d ++ [e.n]) ∧ (C ++ D)[a]? = some d
  | [], C, [], h => ⟨rfl, fun j e he => by simp at he⟩
  | [], C, d :: D, h => by simp [Chd] at h
  | e :: E, C, [], h => by simp [Chd] at h
  | e :: E, C, d :: D, h => by
    obtain ⟨⟨a, h1, h2, h3⟩, h4⟩ := h
    obtain ⟨i1, i2⟩ := Chd.at E (C ++ [d]) D h4
    refine ⟨by simp [i1], fun j e' he => ?_⟩
    cases j with
    | zero =>
      simp only [List.getElem?_cons_zero, Option.some.injEq] at he
      subst he
      refine ⟨a, (C[a]?).getD [], h1, by omega, by simp [h3], ?_⟩
      rw [List.getElem?_append_left h2, List.getElem?_eq_getElem h2]; rfl
    | succ j =>
      obtain ⟨a', d', k1, k2, k3, k4⟩ := i2 j e' (by simpa using he)
      refine ⟨a', d', k1, ?_, by simpa using k3, ?_⟩
      · simp only [List.length_append, List.length_cons, List.length_nil] at k2; omega
      · rw [← k4]; simp
/-- a leaf's number of lists, of nodes that need not be, and path, by the way to it -/
def reps (h : List Nd) : Int := ((h.filter fun n => decide (n.rep = 3)).length : Nat)
def opts (h : List Nd) : Int := ((h.filter fun n => decide (n.rep ≠ 1)).length : Nat)
def idsOf (h : List Nd) : List Int := h.map Nd.id
def rlOf (h : List Nd) : List Int := (h.filter fun n => decide (n.rep = 3)).map Nd.id
structure Lvf where
  id : Int
  kind : Int
  mr : Int
  md : Int
  path : List Int
def lvOf (x : Nd × List Nd) : Option Lvf := if x.1.kind = 0 then none else some ⟨x.1.id, x.1.kind, reps x.2, opts x.2, idsOf x.2⟩
mutual
/-- leaves, as the program has them -/
def lvN : Nd → Int → Int → List Int → List Lvf
  | .mk a b c d l, mr, md, p => if d = 0 then lvL l (if c = 3 then mr + 1 else mr) (if c ≠ 1 then md + 1 else md) (p ++ [a]) else [⟨a, d, if c = 3 then mr + 1 else mr, if c ≠ 1 then md + 1 else md, p ++ [a]⟩]
def lvL : List Nd → Int → Int → List Int → List Lvf
  | [], _, _, _ => []
  | x :: r, mr, md, p => lvN x mr md p ++ lvL r mr md p
end
theorem lvN_eq (n : Nd) (mr md : Int) (p : List Int) : lvN n mr md p = if n.kind = 0 then lvL n.sub (if n.rep = 3 then mr + 1 else mr) (if n.rep ≠ 1 then md + 1 else md) (p ++ [n.id]) else [⟨n.id, n.kind, if n.rep = 3 then mr + 1 else mr, if n.rep ≠ 1 then md + 1 else md, p ++ [n.id]⟩] := by cases n; simp only [lvN]; rfl
theorem reps_snoc (h : List Nd) (n : Nd) : reps (h ++ [n]) = if n.rep = 3 then reps h + 1 else reps h := by
  unfold reps
  rw [List.filter_append, List.length_append]
  by_cases e : n.rep = 3 <;> simp [List.filter_cons, e]
theorem opts_snoc (h : List Nd) (n : Nd) : opts (h ++ [n]) = if n.rep ≠ 1 then opts h + 1 else opts h := by
  unfold opts
  rw [List.filter_append, List.length_append]
  by_cases e : n.rep = 1 <;> simp [List.filter_cons, e]
theorem rlOf_snoc (h : List Nd) (n : Nd) : rlOf (h ++ [n]) = if n.rep = 3 then rlOf h ++ [n.id] else rlOf h := by
  unfold rlOf
  rw [List.filter_append, List.map_append]
  by_cases e : n.rep = 3 <;> simp [List.filter_cons, e]
/-- a leaf has nothing in it, a group something -/
def shaped (n : Nd) : Prop := n.kind ≠ 0 → n.sub = []
theorem lv_chn : (∀ n, ∀ h : List Nd, (∀ x ∈ nodes n, shaped x) → lvN n (reps h) (opts h) (idsOf h) = ((nodes n).zip (chn n h)).filterMap lvOf) ∧
    ∀ l, ∀ h : List Nd, (∀ x ∈ nodesL l, shaped x) → lvL l (reps h) (opts h) (idsOf h) = ((nodesL l).zip (chnL l h)).filterMap lvOf := by
  refine tree2 (fun n ih h hs => ?_) (fun h hs => rfl) (fun x r h1 h2 h hs => ?_)
  · rw [lvN_eq, nodes_eq, chn_eq, List.zip_cons_cons, List.filterMap_cons]
    rw [nodes_eq] at hs
    have e1 : idsOf h ++ [n.id] = idsOf (h ++ [n]) := by simp [idsOf]
    rw [← reps_snoc, ← opts_snoc, e1]
    by_cases hk : n.kind = 0
    · rw [if_pos hk, ih _ fun x hx => hs x (List.mem_cons_of_mem _ hx)]
      simp [lvOf, hk]
    · have hn := hs n (List.mem_cons_self ..) hk
      rw [if_neg hk, hn]
      simp [lvOf, hk, nodesL]
  · simp only [lvL, nodesL, chnL] at hs ⊢
    rw [h1 h fun y hy => hs y (List.mem_append_left _ hy), h2 h fun y hy => hs y (List.mem_append_right _ hy), List.zip_append (by rw [size_len.1, chn_len.1]), List.filterMap_append]
/-- the leaves of a schema -/
def leavesN (n : Nd) : List Lvf := lvL n.sub 0 0 []
mutual
/-- lists around leaves, as the program has them -/
def lsN : Nd → List Int → List (List Int)
  | .mk a b c d l, p => if d = 0 then lsL l (if c = 3 then p ++ [a] else p) else [if c = 3 then p ++ [a] else p]
def lsL : List Nd → List Int → List (List Int)
  | [], _ => []
  | x :: r, p => lsN x p ++ lsL r p
end
theorem lsN_eq (n : Nd) (p : List Int) : lsN n p = if n.kind = 0 then lsL n.sub (if n.rep = 3 then p ++ [n.id] else p) else [if n.rep = 3 then p ++ [n.id] else p] := by cases n; simp only [lsN]; rfl
def lsOf (x : Nd × List Nd) : Option (List Int) := if x.1.kind = 0 then none else some (rlOf x.2)
theorem ls_chn : (∀ n, ∀ h : List Nd, (∀ x ∈ nodes n, shaped x) → lsN n (rlOf h) = ((nodes n).zip (chn n h)).filterMap lsOf) ∧
    ∀ l, ∀ h : List Nd, (∀ x ∈ nodesL l, shaped x) → lsL l (rlOf h) = ((nodesL l).zip (chnL l h)).filterMap lsOf := by
  refine tree2 (fun n ih h hs => ?_) (fun h hs => rfl) (fun x r h1 h2 h hs => ?_)
  · rw [lsN_eq, nodes_eq, chn_eq, List.zip_cons_cons, List.filterMap_cons]
    rw [nodes_eq] at hs
    rw [← rlOf_snoc]
    by_cases hk : n.kind = 0
    · rw [if_pos hk, ih _ fun x hx => hs x (List.mem_cons_of_mem _ hx)]
      simp [lsOf, hk]
    · have hn := hs n (List.mem_cons_self ..) hk
      rw [if_neg hk, hn]
      simp [lsOf, hk, nodesL]
  · simp only [lsL, nodesL, chnL] at hs ⊢
    rw [h1 h fun y hy => hs y (List.mem_append_left _ hy), h2 h fun y hy => hs y (List.mem_append_right _ hy), List.zip_append (by rw [size_len.1, chn_len.1]), List.filterMap_append]
/-- the way to the node at an index of the document's list (nothing to the root) -/
def wayTo (n : Nd) (i : Nat) : List Nd := (([] :: chnL n.sub [])[i]?).getD []
theorem way_zero (n : Nd) : wayTo n 0 = [] := rfl
theorem way_up (n : Nd) (i : Nat) (p : Pl) (h1 : 1 ≤ i) (hp : (plc 0 n 1 (-1))[i]? = some p) : ∃ a : Nat, p.around = a ∧ a < i ∧ wayTo n i = wayTo n a ++ [p.n] := by
  rw [plc_eq] at hp
  obtain ⟨j, rfl⟩ : ∃ j, i = j + 1 := ⟨i - 1, by omega⟩
  rw [List.getElem?_cons_succ] at hp
  have hc := chd_plc.2 n.sub 1 2 0 [[]] [] rfl (by omega) rfl
  obtain ⟨_, h2⟩ := Chd.at _ _ _ hc
  obtain ⟨a, d, k1, k2, k3, k4⟩ := h2 j p (by simpa using hp)
  refine ⟨a, k1, by simp at k2; omega, ?_⟩
  unfold wayTo
  rw [List.getElem?_cons_succ, k3]
  have k4' : ([] :: chnL n.sub [])[a]? = some d := by simpa using k4
  rw [k4']; rfl
theorem way_len (n : Nd) : ∀ i, i < (plc 0 n 1 (-1)).length → (wayTo n i).length ≤ i := by
  intro i
  induction i using Nat.strongRecOn with
  | ind i ih =>
    intro hi
    by_cases h0 : i = 0
    · subst h0; simp [way_zero]
    · obtain ⟨a, h1, h2, h3⟩ := way_up n i _ (by omega) (List.getElem?_eq_getElem hi)
      rw [h3, List.length_append, List.length_cons, List.length_nil]
      have := ih a h2 (by omega)
      omega
/-- the leaf at an index of the document's list, if it is one -/
def lvAt (n : Nd) (F : List Pl) (q : Nat) : Option Lvf := if q = 0 then none else (F[q]?).bind fun p => lvOf (p.n, wayTo n q)
theorem zip_range {α β γ : Type} (f : α × β → Option γ) : ∀ (l : List α) (m : List β), l.length = m.length → ((l.zip m).filterMap f) = (List.range l.length).filterMap fun q => (l[q]?).bind fun a => (m[q]?).bind fun b => f (a, b)
  | [], [], _ => rfl
  | a :: l, b :: m, h => by
    rw [List.zip_cons_cons, List.length_cons, List.range_succ_eq_map, List.filterMap_cons, List.filterMap_cons, List.filterMap_map, zip_range f l m (by simpa using h)]
    have e : (fun q => ((a :: l)[q]?).bind fun a => ((b :: m)[q]?).bind fun b => f (a, b)) ∘ Nat.succ = fun q => (l[q]?).bind fun a => (m[q]?).bind fun b => f (a, b) := by
      funext q; simp [Function.comp]
    rw [e]
    simp
  | [], b :: m, h => by simp at h
  | a :: l, [], h => by simp at h
/-- all leaves, as the document finds them -/
theorem leaves_at (n : Nd) (hs : ∀ x ∈ nodesL n.sub, shaped x) : leavesN n = (List.range (plc 0 n 1 (-1)).length).filterMap (lvAt n (plc 0 n 1 (-1))) := by
  have h := lv_chn.2 n.sub [] hs
  have e0 : reps [] = 0 ∧ opts [] = 0 ∧ idsOf [] = [] := ⟨rfl, rfl, rfl⟩
  rw [e0.1, e0.2.1, e0.2.2] at h
  unfold leavesN
  rw [h, zip_range _ _ _ (by rw [size_len.2, chn_len.2])]
  rw [plc_eq, List.length_cons, List.range_succ_eq_map, List.filterMap_cons, List.filterMap_map, plcL_len, ← size_len.2]
  have e1 : lvAt n (⟨n, 1, -1⟩ :: plcL (0 + 1) n.sub (1 + 1) (0 : Nat)) 0 = none := rfl
  simp only [e1]
  congr 1
  funext q
  simp only [Function.comp, lvAt, Nat.succ_ne_zero, if_false, List.getElem?_cons_succ, wayTo]
  have e2 : (nodesL n.sub)[q]? = ((plcL (0 + 1) n.sub (1 + 1) (0 : Nat))[q]?).map Pl.n := by rw [← plc_nodes.2 n.sub (0 + 1) (1 + 1) (0 : Nat), List.getElem?_map]
  rw [e2]
  cases hx : (plcL (0 + 1) n.sub (1 + 1) (0 : Nat))[q]? with
  | none => rfl
  | some p =>
    have hq := (List.getElem?_eq_some_iff.1 hx).1
    rw [plcL_len] at hq
    have hc : q < (chnL n.sub []).length := by rw [chn_len.2]; exact hq
    simp only [Option.map_some, Option.bind_some, List.getElem?_eq_getElem hc, Option.getD_some]
end Go.Proofs.YthfljcpfcnddhaaGreatDoor
