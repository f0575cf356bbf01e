/- Columns joined: plain Lean; what is known of them. -/
import Derived.Test.YtdfbfhgjpihkiaaDoorMKnown
import Derived.Test.YtdfbfhgjpihkiaaDoorMMay
namespace Go.Proofs.YtdfbfhgjpihkiaaDoor
set_option linter.unusedVariables false
open Go Go.RowKit

/-- two columns of one leaf, one behind the other -/
def Col.app (a b : Col) : Col := ⟨a.id, a.rep ++ b.rep, a.df ++ b.df, a.vals ++ b.vals⟩
theorem levelsB_app (f : Lf) : ∀ (r d r' d' : List Int), r.length = d.length → levelsB f r d = true → levelsB f r' d' = true → levelsB f (r ++ r') (d ++ d') = true
  | [], [], _, _, _, _, h => by simpa using h
  | x :: r, y :: d, r', d', hl, h, h' => by
    simp only [List.length_cons] at hl
    simp only [levelsB, Bool.and_eq_true, List.cons_append] at h ⊢
    exact ⟨h.1, levelsB_app f r d r' d' (by omega) h.2 h'⟩
theorem many_app (md : Int) (a b : List Int) : many md (a ++ b) = many md a + many md b := by
  unfold many
  rw [List.filter_append, List.length_append]
theorem colErr_nil {f : Lf} {c : Col} {free : Bool} : colErr f c free = .nil ↔ shapeB f c free = true ∧ ∀ x ∈ c.vals, OkP f.kind x := by
  unfold colErr
  constructor
  · intro h
    split at h
    · rename_i hs
      refine ⟨hs, (badAt_none f.kind c.vals 0).1 ?_⟩
      split at h
      · assumption
      · cases h
    · cases h
  · rintro ⟨h1, h2⟩
    rw [if_pos h1, (badAt_none f.kind c.vals 0).2 h2]
structure Right (f : Lf) (c : Col) : Prop where
  k1 : 1 ≤ f.kind
  k5 : f.kind ≤ 5
  r0 : 0 ≤ f.mr
  r40 : f.mr ≤ 40
  d0 : 0 ≤ f.md
  d40 : f.md ≤ 40
  id : f.id = c.id
  len : c.rep.length = c.df.length
  lev : levelsB f c.rep c.df = true
  many : many f.md c.df = c.vals.length
  vals : ∀ x ∈ c.vals, OkP f.kind x
theorem right_of {f : Lf} {c : Col} {free : Bool} (h : colErr f c free = .nil) : Right f c ∧ (free || (c.rep.head?.getD 0 == 0)) = true := by
  obtain ⟨h1, h2⟩ := colErr_nil.1 h
  unfold shapeB headB rightB at h1
  simp only [Bool.and_eq_true, decide_eq_true_iff] at h1
  obtain ⟨⟨⟨a1, a2, a3, a4, a5, a6⟩, b, c', d⟩, e, g⟩ := h1
  exact ⟨⟨a1, a2, a3, a4, a5, a6, b, c', e, g, h2⟩, d⟩
theorem Right.nil {f : Lf} {c : Col} {free : Bool} (h : Right f c) (hf : (free || (c.rep.head?.getD 0 == 0)) = true) : colErr f c free = .nil := by
  refine colErr_nil.2 ⟨?_, h.vals⟩
  unfold shapeB headB rightB
  simp only [Bool.and_eq_true, decide_eq_true_iff]
  exact ⟨⟨⟨h.k1, h.k5, h.r0, h.r40, h.d0, h.d40⟩, h.id, h.len, hf⟩, h.lev, h.many⟩
theorem Right.app {f : Lf} {a b : Col} (ha : Right f a) (hb : Right f b) : Right f (a.app b) :=
  ⟨ha.k1, ha.k5, ha.r0, ha.r40, ha.d0, ha.d40, ha.id, by simp [Col.app, ha.len, hb.len], levelsB_app f _ _ _ _ ha.len ha.lev hb.lev, by simp [Col.app, many_app, ha.many, hb.many], by
    intro x hx
    rcases List.mem_append.1 hx with h | h
    · exact ha.vals x h
    · exact hb.vals x h⟩
theorem colErr_app {f : Lf} {a b : Col} (ha : colErr f a false = .nil) (hb : colErr f b false = .nil) : colErr f (a.app b) false = .nil := by
  obtain ⟨h1, h2⟩ := right_of ha
  obtain ⟨h3, h4⟩ := right_of hb
  refine (h1.app h3).nil ?_
  simp only [Bool.false_or] at h2 h4 ⊢
  show ((a.rep ++ b.rep).head?.getD 0 == 0) = true
  cases hr : a.rep with
  | nil => simpa using h4
  | cons x l => rw [hr] at h2; simpa using h2

/-- values of one kind -/
def AllIs (k : Int) (l : List Val) : Prop := ∀ x ∈ l, x.Ok ∧ x.Is k
theorem pickLo_assoc {k : Int} {m y z : Val} (hm : m.Ok ∧ m.Is k) (hy : y.Ok ∧ y.Is k) (hz : z.Ok ∧ z.Is k) : pickLo (pickLo m y) z = pickLo m (pickLo y z) := by
  unfold pickLo
  cases h1 : y.less m <;> cases h2 : z.less y <;> simp only [cond_true, cond_false, h1, h2]
  · cases h3 : z.less m with
    | false => rfl
    | true =>
      exfalso
      cases h4 : m.less y with
      | true => rw [Val.less_trans hz.2 hm.2 hy.2 h3 h4] at h2; cases h2
      | false => rw [← Val.less_total hm.1 hy.1 hm.2 hy.2 h4 h1, h3] at h2; cases h2
  · rw [Val.less_trans hz.2 hy.2 hm.2 h2 h1]; rfl
theorem pickHi_assoc {k : Int} {m y z : Val} (hm : m.Ok ∧ m.Is k) (hy : y.Ok ∧ y.Is k) (hz : z.Ok ∧ z.Is k) : pickHi (pickHi m y) z = pickHi m (pickHi y z) := by
  unfold pickHi
  cases h1 : m.less y <;> cases h2 : y.less z <;> simp only [cond_true, cond_false, h1, h2]
  · cases h3 : m.less z with
    | false => rfl
    | true =>
      exfalso
      cases h4 : y.less m with
      | true => rw [Val.less_trans hy.2 hm.2 hz.2 h4 h3] at h2; cases h2
      | false => rw [← Val.less_total hm.1 hy.1 hm.2 hy.2 h1 h4, h3] at h2; cases h2
  · rw [Val.less_trans hm.2 hy.2 hz.2 h1 h2]; rfl
theorem pickLo_is {k : Int} {m y : Val} (hm : m.Ok ∧ m.Is k) (hy : y.Ok ∧ y.Is k) : (pickLo m y).Ok ∧ (pickLo m y).Is k := by
  unfold pickLo; cases y.less m <;> assumption
theorem pickHi_is {k : Int} {m y : Val} (hm : m.Ok ∧ m.Is k) (hy : y.Ok ∧ y.Is k) : (pickHi m y).Ok ∧ (pickHi m y).Is k := by
  unfold pickHi; cases m.less y <;> assumption
theorem foldLo {k : Int} : ∀ (l : List Val) (m y : Val), m.Ok ∧ m.Is k → y.Ok ∧ y.Is k → AllIs k l → l.foldl pickLo (pickLo m y) = pickLo m (l.foldl pickLo y)
  | [], m, y, _, _, _ => rfl
  | z :: l, m, y, hm, hy, hl => by
    have hz := hl z (by simp)
    rw [List.foldl_cons, List.foldl_cons, pickLo_assoc hm hy hz]
    exact foldLo l m _ hm (pickLo_is hy hz) (fun x hx => hl x (List.mem_cons_of_mem _ hx))
theorem foldHi {k : Int} : ∀ (l : List Val) (m y : Val), m.Ok ∧ m.Is k → y.Ok ∧ y.Is k → AllIs k l → l.foldl pickHi (pickHi m y) = pickHi m (l.foldl pickHi y)
  | [], m, y, _, _, _ => rfl
  | z :: l, m, y, hm, hy, hl => by
    have hz := hl z (by simp)
    rw [List.foldl_cons, List.foldl_cons, pickHi_assoc hm hy hz]
    exact foldHi l m _ hm (pickHi_is hy hz) (fun x hx => hl x (List.mem_cons_of_mem _ hx))
theorem fold_is {k : Int} {g : Val → Val → Val} (hg : ∀ m y, m.Ok ∧ m.Is k → y.Ok ∧ y.Is k → (g m y).Ok ∧ (g m y).Is k) : ∀ (l : List Val) (m : Val), m.Ok ∧ m.Is k → AllIs k l → (l.foldl g m).Ok ∧ (l.foldl g m).Is k
  | [], m, hm, _ => hm
  | z :: l, m, hm, hl => fold_is hg l _ (hg m z hm (hl z (by simp))) (fun x hx => hl x (List.mem_cons_of_mem _ hx))
theorem loOf_app {k : Int} {a b : List Val} (ha : AllIs k a) (hb : AllIs k b) (na : a ≠ []) (nb : b ≠ []) : loOf (a ++ b) = pickLo (loOf a) (loOf b) := by
  cases a with
  | nil => exact absurd rfl na
  | cons x a =>
    cases b with
    | nil => exact absurd rfl nb
    | cons y b =>
      show (a ++ y :: b).foldl pickLo x = _
      rw [List.foldl_append, List.foldl_cons]
      have hx := ha x (by simp)
      have h1 := fold_is (fun m y h1 h2 => pickLo_is h1 h2) a x hx (fun z hz => ha z (List.mem_cons_of_mem _ hz))
      exact foldLo b _ y h1 (hb y (by simp)) (fun z hz => hb z (List.mem_cons_of_mem _ hz))
theorem hiOf_app {k : Int} {a b : List Val} (ha : AllIs k a) (hb : AllIs k b) (na : a ≠ []) (nb : b ≠ []) : hiOf (a ++ b) = pickHi (hiOf a) (hiOf b) := by
  cases a with
  | nil => exact absurd rfl na
  | cons x a =>
    cases b with
    | nil => exact absurd rfl nb
    | cons y b =>
      show (a ++ y :: b).foldl pickHi x = _
      rw [List.foldl_append, List.foldl_cons]
      have hx := ha x (by simp)
      have h1 := fold_is (fun m y h1 h2 => pickHi_is h1 h2) a x hx (fun z hz => ha z (List.mem_cons_of_mem _ hz))
      exact foldHi b _ y h1 (hb y (by simp)) (fun z hz => hb z (List.mem_cons_of_mem _ hz))
theorem isEmpty_ne {α : Type} {l : List α} : l.isEmpty = false ↔ l ≠ [] := by cases l <;> simp
theorem st_mk {e e' n n' : Int} {h h' : Bool} {lo lo' hi hi' : Val} (a : e = e') (b : n = n') (c : h = h') (d : lo = lo') (g : hi = hi') : St.mk e n h lo hi = St.mk e' n' h' lo' hi' := by rw [a, b, c, d, g]
/-- what is known of both together is what is known of the whole -/
theorem merge_known {f : Lf} {a b : Col} (oa : a.Ok) (ob : b.Ok) (ha : Right f a) (hb : Right f b) : mergeSt (knownSt a) (knownSt b) = some (knownSt (a.app b)) := by
  have va : AllIs f.kind a.vals := fun x hx => ⟨oa.vals.2 x hx, (ha.vals x hx).is ha.k1 ha.k5⟩
  have vb : AllIs f.kind b.vals := fun x hx => ⟨ob.vals.2 x hx, (hb.vals x hx).is hb.k1 hb.k5⟩
  have hc : (a.vals ++ b.vals).isEmpty = (a.vals.isEmpty && b.vals.isEmpty) := by cases a.vals <;> simp
  have h1 : ((a.app b).rep.length : Int) = (a.rep.length : Int) + (b.rep.length : Nat) := by simp [Col.app]
  have h2 : ((a.app b).vals.length : Int) = (a.vals.length : Int) + (b.vals.length : Nat) := by simp [Col.app]
  unfold mergeSt
  rw [if_neg]
  · congr 1
    simp only [knownSt]
    rw [h1, h2]
    refine st_mk rfl (by omega) ?_ ?_ ?_
    · show (!a.vals.isEmpty || !b.vals.isEmpty) = !(a.vals ++ b.vals).isEmpty
      rw [hc, Bool.not_and]
    · show _ = loOf (a.vals ++ b.vals)
      by_cases ea : a.vals = []
      · by_cases eb : b.vals = []
        · simp [ea, eb, loOf]
        · simp [ea, eb]
      · by_cases eb : b.vals = []
        · simp [ea, eb]
        · rw [loOf_app va vb ea eb]
          unfold pickLo
          by_cases hq : (loOf b.vals).less (loOf a.vals) = true <;> simp [ea, eb, hq]
    · show _ = hiOf (a.vals ++ b.vals)
      by_cases ea : a.vals = []
      · by_cases eb : b.vals = []
        · simp [ea, eb, hiOf]
        · simp [ea, eb]
      · by_cases eb : b.vals = []
        · simp [ea, eb]
        · rw [hiOf_app va vb ea eb]
          unfold pickHi
          by_cases hq : (hiOf a.vals).less (hiOf b.vals) = true <;> simp [ea, eb, hq]
  · rintro ⟨g1, g2, g3⟩
    simp only [knownSt] at g1 g2 g3
    have na : a.vals ≠ [] := isEmpty_ne.1 (by simpa using g1)
    have nb : b.vals ≠ [] := isEmpty_ne.1 (by simpa using g2)
    exact g3 ((ha.vals _ (loOf_mem _ na)).k.trans (hb.vals _ (loOf_mem _ nb)).k.symm)
theorem foldLo_le {k : Int} : ∀ (l : List Val) (m : Val), m.Ok ∧ m.Is k → AllIs k l → ∀ x ∈ m :: l, x.less (l.foldl pickLo m) = false
  | [], m, hm, _, x, hx => by
    simp at hx; subst hx; exact Val.less_irrefl x
  | z :: l, m, hm, hl, x, hx => by
    have hz := hl z (by simp)
    have hl' : AllIs k l := fun y hy => hl y (List.mem_cons_of_mem _ hy)
    have hp := pickLo_is hm hz
    have ih := foldLo_le l (pickLo m z) hp hl'
    have hF := fold_is (k := k) (fun m y h1 h2 => pickLo_is h1 h2) l _ hp hl'
    rw [List.foldl_cons]
    have h0 := ih (pickLo m z) (by simp)
    have le : ∀ y : Val, y.Ok ∧ y.Is k → y.less (pickLo m z) = false → y.less (l.foldl pickLo (pickLo m z)) = false := by
      intro y hy h1
      cases h2 : y.less (l.foldl pickLo (pickLo m z)) with
      | false => rfl
      | true =>
        exfalso
        cases h3 : (pickLo m z).less y with
        | true => rw [Val.less_trans hp.2 hy.2 hF.2 h3 h2] at h0; cases h0
        | false =>
          have e := Val.less_total hy.1 hp.1 hy.2 hp.2 h1 h3
          rw [e, h0] at h2; cases h2
    rcases List.mem_cons.1 hx with rfl | hx
    · refine le x hm ?_
      unfold pickLo
      cases h : z.less x with
      | true => exact Val.less_asymm hz.2 hm.2 h
      | false => exact Val.less_irrefl x
    · rcases List.mem_cons.1 hx with rfl | hx
      · refine le x hz ?_
        unfold pickLo
        cases h : x.less m with
        | true => exact Val.less_irrefl x
        | false => exact h
      · exact ih x (List.mem_cons_of_mem _ hx)
theorem foldHi_le {k : Int} : ∀ (l : List Val) (m : Val), m.Ok ∧ m.Is k → AllIs k l → ∀ x ∈ m :: l, (l.foldl pickHi m).less x = false
  | [], m, hm, _, x, hx => by
    simp at hx; subst hx; exact Val.less_irrefl x
  | z :: l, m, hm, hl, x, hx => by
    have hz := hl z (by simp)
    have hl' : AllIs k l := fun y hy => hl y (List.mem_cons_of_mem _ hy)
    have hp := pickHi_is hm hz
    have ih := foldHi_le l (pickHi m z) hp hl'
    have hF := fold_is (k := k) (fun m y h1 h2 => pickHi_is h1 h2) l _ hp hl'
    rw [List.foldl_cons]
    have h0 := ih (pickHi m z) (by simp)
    have le : ∀ y : Val, y.Ok ∧ y.Is k → (pickHi m z).less y = false → (l.foldl pickHi (pickHi m z)).less y = false := by
      intro y hy h1
      cases h2 : (l.foldl pickHi (pickHi m z)).less y with
      | false => rfl
      | true =>
        exfalso
        cases h3 : y.less (pickHi m z) with
        | true => rw [Val.less_trans hF.2 hy.2 hp.2 h2 h3] at h0; cases h0
        | false =>
          have e := Val.less_total hy.1 hp.1 hy.2 hp.2 h3 h1
          rw [e, h0] at h2; cases h2
    rcases List.mem_cons.1 hx with rfl | hx
    · refine le x hm ?_
      unfold pickHi
      cases h : x.less z with
      | true => exact Val.less_asymm hm.2 hz.2 h
      | false => exact Val.less_irrefl x
    · rcases List.mem_cons.1 hx with rfl | hx
      · refine le x hz ?_
        unfold pickHi
        cases h : m.less x with
        | true => exact Val.less_irrefl x
        | false => exact h
      · exact ih x (List.mem_cons_of_mem _ hx)
theorem loOf_le {k : Int} {l : List Val} (hl : AllIs k l) {x : Val} (hx : x ∈ l) : x.less (loOf l) = false := by
  cases l with
  | nil => cases hx
  | cons m l => exact foldLo_le l m (hl m (by simp)) (fun y hy => hl y (List.mem_cons_of_mem _ hy)) x hx
theorem hiOf_le {k : Int} {l : List Val} (hl : AllIs k l) {x : Val} (hx : x ∈ l) : (hiOf l).less x = false := by
  cases l with
  | nil => cases hx
  | cons m l => exact foldHi_le l m (hl m (by simp)) (fun y hy => hl y (List.mem_cons_of_mem _ hy)) x hx
/-- where a value stands so, some may -/
theorem some_may {f : Lf} {c : Col} (oc : c.Ok) (hc : Right f c) (s : ByteArray) (v : Val) (hv : v.Ok ∧ v.Is f.kind) (x : Val) (hx : x ∈ c.vals) (h : (standsO s (x.less v) (v.less x)).getD false = true) : mayP (knownSt c) s v = true := by
  have vc : AllIs f.kind c.vals := fun x hx => ⟨oc.vals.2 x hx, (hc.vals x hx).is hc.k1 hc.k5⟩
  have hne : c.vals ≠ [] := by intro e; rw [e] at hx; cases hx
  have hl := vc _ (loOf_mem _ hne)
  have hh := vc _ (hiOf_mem _ hne)
  have hX := vc x hx
  have h1 := loOf_le vc hx
  have h2 := hiOf_le vc hx
  -- lo ≤ x ≤ hi
  have L1 : x.less v = true → (loOf c.vals).less v = true := by
    intro g
    cases h3 : (loOf c.vals).less x with
    | true => exact Val.less_trans hl.2 hX.2 hv.2 h3 g
    | false => rw [Val.less_total hl.1 hX.1 hl.2 hX.2 h3 h1]; exact g
  have L2 : v.less (loOf c.vals) = true → v.less x = true := by
    intro g
    cases h3 : (loOf c.vals).less x with
    | true => exact Val.less_trans hv.2 hl.2 hX.2 g h3
    | false => rw [← Val.less_total hl.1 hX.1 hl.2 hX.2 h3 h1]; exact g
  have H1 : v.less x = true → v.less (hiOf c.vals) = true := by
    intro g
    cases h3 : x.less (hiOf c.vals) with
    | true => exact Val.less_trans hv.2 hX.2 hh.2 g h3
    | false => rw [← Val.less_total hX.1 hh.1 hX.2 hh.2 h3 h2]; exact g
  have H2 : (hiOf c.vals).less v = true → x.less v = true := by
    intro g
    cases h3 : x.less (hiOf c.vals) with
    | true => exact Val.less_trans hX.2 hh.2 hv.2 h3 g
    | false => rw [Val.less_total hX.1 hh.1 hX.2 hh.2 h3 h2]; exact g
  have hhas : (knownSt c).has = true := by simp [knownSt, hne]
  unfold mayP
  rw [hhas, Bool.true_and]
  show ((if s = ⟨#[61]⟩ then !(v.less (loOf c.vals)) && !((hiOf c.vals).less v) else (standsO s ((loOf c.vals).less v) (v.less (loOf c.vals))).getD false) || (standsO s ((hiOf c.vals).less v) (v.less (hiOf c.vals))).getD false) = true
  generalize (loOf c.vals).less v = a1 at *
  generalize v.less (loOf c.vals) = a2 at *
  generalize (hiOf c.vals).less v = a3 at *
  generalize v.less (hiOf c.vals) = a4 at *
  generalize x.less v = a5 at *
  generalize v.less x = a6 at *
  by_cases hs : s = ⟨#[61]⟩
  · rw [if_pos hs]
    subst hs
    revert h L1 L2 H1 H2
    clear h1 h2
    revert a1 a2 a3 a4 a5 a6
    decide
  · rw [if_neg hs]
    unfold standsO at h ⊢
    rw [if_neg hs] at h
    rw [if_neg hs, if_neg hs]
    clear h1 h2
    revert h L1 L2 H1 H2
    by_cases h0 : s = ⟨#[60]⟩
    · simp only [if_pos h0]; revert a1 a2 a3 a4 a5 a6; decide
    simp only [if_neg h0]
    by_cases h1 : s = ⟨#[60, 61]⟩
    · simp only [if_pos h1]; revert a1 a2 a3 a4 a5 a6; decide
    simp only [if_neg h1]
    by_cases h3 : s = ⟨#[33, 61]⟩
    · simp only [if_pos h3]; revert a1 a2 a3 a4 a5 a6; decide
    simp only [if_neg h3]
    by_cases h4 : s = ⟨#[62]⟩
    · simp only [if_pos h4]; revert a1 a2 a3 a4 a5 a6; decide
    simp only [if_neg h4]
    by_cases h5 : s = ⟨#[62, 61]⟩
    · simp only [if_pos h5]; revert a1 a2 a3 a4 a5 a6; decide
    simp only [if_neg h5]
    intro _ _ _ _ h
    cases h
end Go.Proofs.YtdfbfhgjpihkiaaDoor
