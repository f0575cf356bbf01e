/- The walk of the statement StatsBounds. -/
import Derived.Test.YtdfbfhgjpihkiaaDoorJn2
import Derived.Test.YtdfbfhgjpihkiaaDoorColArg2
import Derived.Test.YtdfbfhgjpihkiaaDoorMKnown
import Derived.Test.YtdfbfhgjpihkiaaDoorMMay
import Derived.Test.YtdfbfhgjpihkiaaDoorPg1
import Derived.Test.YtdfbfhgjpihkiaaDoorRow4
import Derived.Deep.RegionHeld3
import Derived.Deep.DeepCutAuto
namespace Go.Proofs.YtdfbfhgjpihkiaaDoor
set_option linter.unusedVariables false
set_option linter.unusedSimpArgs false
open Go Go.RowKit Go.ChangeShapes

/-- an error's value is nil, or it is none -/
def Nb (b : Bool) (v : Value) : Prop := (b = true → v = .nilIface) ∧ (b = false → ∃ T p, v = .iface T p)
theorem Nb.of {w : World} {adr : Nat → Addr} {e : GErr} {u : Value} (h : IsErr w adr e u) : Nb e.isNil u :=
  ⟨fun hn => by rw [(GErr.isNil_iff _).1 hn] at h; exact h, fun hn => err_iface h hn⟩
theorem ofS_any (f : Lf) (c : Col) (vf vc : Value) (w : World) (adr : Nat → Addr) (hE : ErrsAt w adr [3, 4]) (hf : IsLf w vf f) (hc : IsCol w vc c) (fo : f.Ok) (co : c.Ok) :
    Calls Tryd.prog 9 #[vf, vc] w fun e w' => (∃ u, e = .returned (.tuple #[.agg (stA (ofSt f c)), u]) ∧ Nb (colErr f c false).isNil u) ∧ Below w.heap.size w w' := by
  by_cases hn : colErr f c false = .nil
  · have e : ofSt f c = knownSt c := by unfold ofSt; rw [hn]
    rw [hn, e]
    exact (of_nil f c vf vc w adr hE hf hc fo co hn).mono fun e w' ⟨h1, h2⟩ => ⟨⟨_, h1, ⟨fun _ => rfl, fun h => by cases h⟩⟩, h2⟩
  · have e : ofSt f c = St.none := by
      unfold ofSt
      cases h : colErr f c false with
      | nil => exact absurd h hn
      | sent k => rfl
      | fault k q => rfl
    rw [e]
    exact (of_err f c vf vc w adr hE hf hc fo co hn).mono fun e w' ⟨⟨u, h1, h2⟩, h3⟩ => ⟨⟨u, h1, Nb.of h2⟩, h3⟩
theorem colAt_of {w : World} {b o : Nat} {c : Col} {x1 x2 x3 : Value} (h : IsCol w (.agg #[.int .i64 c.id, x1, x2, x3]) c) (h0 : w.cell? ⟨b, o, none⟩ = some (.int .i64 c.id)) (h1 : w.cell? ⟨b, o + 1, none⟩ = some x1) (h2 : w.cell? ⟨b, o + 2, none⟩ = some x2) (h3 : w.cell? ⟨b, o + 3, none⟩ = some x3) : ColAt w b o c := by
  obtain ⟨p, q, d, e, i1, i2, i3⟩ := h
  unfold colA at e
  simp only [Value.agg.injEq, Array.mk.injEq, List.cons.injEq, true_and, and_true] at e
  obtain ⟨rfl, rfl, rfl⟩ := e
  refine ⟨_, _, _, i1, i2, i3, fun j v hj => ?_⟩
  unfold colA at hj
  match j, hj with
  | 0, hj => simp at hj; subst hj; exact h0
  | 1, hj => simp at hj; subst hj; exact h1
  | 2, hj => simp at hj; subst hj; exact h2
  | 3, hj => simp at hj; subst hj; exact h3
  | j + 4, hj => simp at hj
theorem isCols_two {w : World} {b : Nat} {t : TypeId} {a c : Col} {x1 x2 x3 y1 y2 y3 : Value} (ha : IsCol w (.agg #[.int .i64 a.id, x1, x2, x3]) a) (hc : IsCol w (.agg #[.int .i64 c.id, y1, y2, y3]) c)
    (hr : w.heap[b]? = some (.cells #[.int .i64 a.id, x1, x2, x3, .int .i64 c.id, y1, y2, y3] t (0, 0))) : IsCols w (.slice (some ⟨b, 0, none⟩) 2 2) [a, c] := by
  refine .inr ⟨b, 0, 2, rfl, row_lt hr, fun j x hj => ?_⟩
  match j, hj with
  | 0, hj => simp at hj; subst hj; exact colAt_of ha (rowc hr 0) (rowc hr 1) (rowc hr 2) (rowc hr 3)
  | 1, hj => simp at hj; subst hj; exact colAt_of hc (rowc hr 4) (rowc hr 5) (rowc hr 6) (rowc hr 7)
  | j + 2, hj => simp at hj
theorem mergeP_some (a b m : St) (ha : a.Ok) (hb : b.Ok) (a0 : 0 ≤ a.e) (a1 : a.e ≤ 1099511627776) (b0 : 0 ≤ b.e) (b1 : b.e ≤ 1099511627776) (c0 : 0 ≤ a.n) (c1 : a.n ≤ 1099511627776) (d0 : 0 ≤ b.n) (d1 : b.n ≤ 1099511627776) (hm : mergeSt a b = some m) (w : World) :
    Calls Tryd.prog 13 #[.agg (stA a), .agg (stA b)] w fun e w' => e = .returned (.tuple #[.agg (stA m), .nilIface]) ∧ Below w.heap.size w w' := by
  unfold mergeSt at hm
  split at hm
  · cases hm
  · rename_i hk
    obtain rfl := (Option.some.inj hm).symm
    cases h1 : a.has <;> cases h2 : b.has
    · simpa [h1, h2] using merge_nn a b ha hb a0 a1 b0 b1 c0 c1 d0 d1 h1 h2 w
    · simpa [h1, h2] using merge_ny a b ha hb a0 a1 b0 b1 c0 c1 d0 d1 h1 h2 w
    · simpa [h1, h2] using merge_yn a b ha hb a0 a1 b0 b1 c0 c1 d0 d1 h1 h2 w
    · have hk' : a.lo.k = b.lo.k := by
        by_cases h : a.lo.k = b.lo.k
        · exact h
        · exact absurd ⟨h1, h2, h⟩ hk
      simpa [h1, h2] using merge_yy a b ha hb a0 a1 b0 b1 c0 c1 d0 d1 h1 h2 hk' w
theorem sb_facts (f : Lf) (a b : Col) (fo : f.Ok) (oa : a.Ok) (ob : b.Ok) (ha : colErr f a false = .nil) (hb : colErr f b false = .nil) :
    colErr f (a.app b) false = .nil ∧ ofSt f a = knownSt a ∧ ofSt f b = knownSt b ∧ mergeSt (knownSt a) (knownSt b) = some (knownSt (a.app b)) ∧ Right f (a.app b) :=
  ⟨colErr_app ha hb, by unfold ofSt; rw [ha], by unfold ofSt; rw [hb], merge_known oa ob (right_of ha).1 (right_of hb).1, (right_of ha).1.app (right_of hb).1⟩
theorem sb_stands {f : Lf} {c : Col} (oc : c.Ok) (hc : Right f c) (s : ByteArray) (v : Val) (hv : v.Ok) (h2 : valsErr v.k [v] = .nil) (h3 : (knownSt c).has = true → (knownSt c).lo.k = v.k) (hmp : mayP (knownSt c) s v = false) (x : Val) (hx : x ∈ c.vals) : (standsO s (x.less v) (v.less x)).getD false = false := by
  cases h : (standsO s (x.less v) (v.less x)).getD false with
  | false => rfl
  | true =>
    exfalso
    have hne : c.vals ≠ [] := by intro e; rw [e] at hx; cases hx
    have hk := h3 (by simp [knownSt, hne])
    have hl := (hc.vals _ (loOf_mem _ hne)).k
    obtain ⟨h1, h5, _, h4⟩ := valsErr_nil h2
    have hvk : v.k = f.kind := by rw [← hk]; exact hl
    have hvi : v.Is f.kind := by
      have := (h4 v (by simp)).is h1 h5
      rw [hvk] at this
      exact this
    rw [some_may oc hc s v ⟨hv, hvi⟩ x hx h] at hmp
    cases hmp
theorem app_ok {f : Lf} {a b : Col} (oa : a.Ok) (ob : b.Ok) (ha : Right f a) (hb : Right f b) (la : a.rep.length ≤ 2000) (lb : b.rep.length ≤ 2000) : (a.app b).Ok := by
  have va := ha.vals_leJ; have vb := hb.vals_leJ
  have da := ha.len; have db := hb.len
  refine ⟨oa.id0, oa.id1, ⟨?_, ?_⟩, ⟨?_, ?_⟩, ?_, ?_⟩
  · show (a.rep ++ b.rep).length ≤ maxLen; rw [List.length_append]; unfold maxLen; omega
  · intro x hx; rcases List.mem_append.1 hx with h | h
    · exact oa.rep.2 x h
    · exact ob.rep.2 x h
  · show (a.df ++ b.df).length ≤ maxLen; rw [List.length_append]; unfold maxLen; omega
  · intro x hx; rcases List.mem_append.1 hx with h | h
    · exact oa.df.2 x h
    · exact ob.df.2 x h
  · show (a.vals ++ b.vals).length ≤ maxLen; rw [List.length_append]; unfold maxLen; omega
  · intro x hx; rcases List.mem_append.1 hx with h | h
    · exact oa.vals.2 x h
    · exact ob.vals.2 x h
theorem knownSt_okJ {f : Lf} {c : Col} (co : c.Ok) (hr : Right f c) (hl : c.rep.length ≤ 20000) : (knownSt c).Ok ∧ 0 ≤ (knownSt c).e ∧ (knownSt c).e ≤ 1099511627776 ∧ 0 ≤ (knownSt c).n ∧ (knownSt c).n ≤ 1099511627776 := by
  have hv := hr.vals_leJ
  refine ⟨(knownSt_ok co hr hl).1, ?_, ?_, ?_, ?_⟩ <;> simp only [knownSt] <;> omega
theorem isVals_len {w : World} {d : Option Addr} {n c : Nat} {l : List Val} (h : IsVals w (.slice d n c) l) : n = l.length := by
  rcases h with ⟨rfl, ad, cap, e⟩ | ⟨b, off, cap, e, _⟩
  · injection e
  · injection e
/-- May at whatever way and value -/
theorem may_any (a : St) (ha : a.Ok) (s : ByteArray) (v : Val) (hv : v.Ok) (w : World) (adr : Nat → Addr) (hE : ErrsAt w adr [1, 2, 4]) :
    Calls Tryd.prog 14 #[.agg (stA a), .string s, .agg (valA v)] w fun e w' => ((∃ m T p, e = .returned (.tuple #[.bool m, .iface T p])) ∨ (e = .returned (.tuple #[.bool (mayP a s v), .nilIface]) ∧ (standsO s (a.lo.less v) (v.less a.lo)).isSome = true ∧ valsErr v.k [v] = .nil ∧ (a.has = true → a.lo.k = v.k))) ∧ Below w.heap.size w w' := by
  cases h : standsO s (a.lo.less v) (v.less a.lo) with
  | none => exact (may_how a ha s v hv w adr hE h).mono fun e w' ⟨h1, h2⟩ => ⟨.inl ⟨_, _, _, h1⟩, h2⟩
  | some x =>
    by_cases hn : valsErr v.k [v] = .nil
    · by_cases h2 : a.has = true → a.lo.k = v.k
      · exact (may_ok a ha s v hv w adr hE (by rw [h]; rfl) hn h2).mono fun e w' ⟨h3, h4⟩ => ⟨.inr ⟨h3, rfl, hn, h2⟩, h4⟩
      · have h3 : a.has = true ∧ ¬ a.lo.k = v.k := by
          constructor
          · cases hh : a.has with
            | true => rfl
            | false => exact absurd (fun h => by rw [hh] at h; cases h) h2
          · exact fun h => h2 fun _ => h
        exact (may_kind2 a ha s v hv w adr hE x h hn h3.1 h3.2).mono fun e w' ⟨h1, h2⟩ => ⟨.inl ⟨_, _, _, h1⟩, h2⟩
    · exact (may_kind a ha s v hv w adr hE x h hn).mono fun e w' ⟨h1, h2⟩ => ⟨.inl ⟨_, _, _, h1⟩, h2⟩
theorem rowc_alloc2 {w : World} {g : Nat} {cs : Array Value} {t : TypeId} (hg : w.heap[g]? = some (.cells cs t (0, 0))) (o o' : Obj) : ∀ j, ((w.alloc o).alloc o').cell? ⟨g, j, none⟩ = cs[j]? := rowc_alloc ((Lib.alloc_old w o g (row_lt hg)).trans hg) o'
theorem alloc_le (w : World) (o : Obj) : w.heap.size ≤ (w.alloc o).heap.size := by simp
theorem bel1 (w : World) (o : Obj) : Below w.heap.size w (w.alloc o) := (Below.refl _ _).alloc (Nat.le_refl _) o
theorem bel2 (w : World) (o o' : Obj) : Below w.heap.size w ((w.alloc o).alloc o') := (bel1 w o).alloc (alloc_le w o) o'
theorem belA1 {B : Nat} {w0 w : World} (h : Below B w0 w) (hB : B ≤ w.heap.size) (o : Obj) : Below B w0 (w.alloc o) := h.alloc hB o
theorem belA2 {B : Nat} {w0 w : World} (h : Below B w0 w) (hB : B ≤ w.heap.size) (o o' : Obj) : Below B w0 ((w.alloc o).alloc o') := (h.alloc hB o).alloc (Nat.le_trans hB (alloc_le w o)) o'
theorem isLf1 {w : World} {v : Value} {f : Lf} (h : IsLf w v f) (o : Obj) : IsLf (w.alloc o) v f := h.below (bel1 w o) (Nat.le_refl _)
theorem isLf2 {w : World} {v : Value} {f : Lf} (h : IsLf w v f) (o o' : Obj) : IsLf ((w.alloc o).alloc o') v f := h.below (bel2 w o o') (Nat.le_refl _)
theorem isCols_1 {w : World} {t : TypeId} {a c : Col} {x1 x2 x3 y1 y2 y3 : Value} (ha : IsCol w (.agg #[.int .i64 a.id, x1, x2, x3]) a) (hc : IsCol w (.agg #[.int .i64 c.id, y1, y2, y3]) c) :
    IsCols (w.alloc (.cells #[.int .i64 a.id, x1, x2, x3, .int .i64 c.id, y1, y2, y3] t)) (.slice (some ⟨w.heap.size, 0, none⟩) 2 2) [a, c] :=
  isCols_two (ha.below (bel1 _ _) (Nat.le_refl _)) (hc.below (bel1 _ _) (Nat.le_refl _)) (heap_alloc_new _ _)
theorem isCols_2 {w : World} {t : TypeId} {o : Obj} {a c : Col} {x1 x2 x3 y1 y2 y3 : Value} (ha : IsCol w (.agg #[.int .i64 a.id, x1, x2, x3]) a) (hc : IsCol w (.agg #[.int .i64 c.id, y1, y2, y3]) c) :
    IsCols ((w.alloc (.cells #[.int .i64 a.id, x1, x2, x3, .int .i64 c.id, y1, y2, y3] t)).alloc o) (.slice (some ⟨w.heap.size, 0, none⟩) 2 2) [a, c] :=
  isCols_two (ha.below (bel2 _ _ _) (Nat.le_refl _)) (hc.below (bel2 _ _ _) (Nat.le_refl _)) ((Lib.alloc_old _ _ _ (by simp)).trans (heap_alloc_new _ _))
theorem isCols_3 {w : World} {t : TypeId} {o : Obj} {a c : Col} {x1 x2 x3 y1 y2 y3 : Value} (ha : IsCol w (.agg #[.int .i64 a.id, x1, x2, x3]) a) (hc : IsCol w (.agg #[.int .i64 c.id, y1, y2, y3]) c) :
    IsCols ((w.alloc o).alloc (.cells #[.int .i64 a.id, x1, x2, x3, .int .i64 c.id, y1, y2, y3] t)) (.slice (some ⟨w.heap.size + 1, 0, none⟩) 2 2) [a, c] := by
  have h := heap_alloc_new (w.alloc o) (.cells #[.int .i64 a.id, x1, x2, x3, .int .i64 c.id, y1, y2, y3] t)
  rw [show (w.alloc o).heap.size = w.heap.size + 1 by simp] at h
  exact isCols_two (ha.below (bel2 _ _ _) (Nat.le_refl _)) (hc.below (bel2 _ _ _) (Nat.le_refl _)) h
theorem slim_le {c : Col} (h : slimN c ≤ 2000) : c.rep.length ≤ 2000 := by unfold slimN at h; omega
/-- Join of two where one is none of the leaf's -/
theorem join_two_bad (f : Lf) (a b : Col) (vf v : Value) (w : World) (adr : Nat → Addr) (hE : ErrsAt w adr [2, 3, 4]) (hf : IsLf w vf f) (hl : IsCols w v [a, b]) (fo : f.Ok) (oa : a.Ok) (ob : b.Ok) (hn : ¬ (colErr f a false = .nil ∧ colErr f b false = .nil)) :
    Calls Tryd.prog 12 #[vf, v] w fun e w' => (∃ u, e = .returned (.tuple #[.agg #[.int .i64 0, .slice none 0 0, .slice none 0 0, .slice none 0 0], u])) ∧ Below w.heap.size w w' := by
  have lo : ∀ c ∈ [a, b], c.Ok := by intro c hc; simp at hc; rcases hc with rfl | rfl <;> assumption
  by_cases ha : colErr f a false = .nil
  · have hb : (colErr f b false).isNil = false := by
      cases h : (colErr f b false).isNil with
      | false => rfl
      | true => exact absurd ⟨ha, (GErr.isNil_iff _).1 h⟩ hn
    refine (join_bad f [a, b] vf v w adr hE hf hl fo lo (by simp) 1 (by simp) ?_ (by simpa using hb)).mono fun e w' ⟨⟨u, h1, _⟩, h2⟩ => ⟨⟨u, h1⟩, h2⟩
    intro j c hj hc
    obtain rfl : j = 0 := by omega
    simp at hc; subst hc; exact ha
  · have hb : (colErr f a false).isNil = false := by
      cases h : (colErr f a false).isNil with
      | false => rfl
      | true => exact absurd ((GErr.isNil_iff _).1 h) ha
    exact (join_bad f [a, b] vf v w adr hE hf hl fo lo (by simp) 0 (by simp) (fun j c hj _ => by omega) (by simpa using hb)).mono fun e w' ⟨⟨u, h1, _⟩, h2⟩ => ⟨⟨u, h1⟩, h2⟩
theorem join_two (f : Lf) (a b : Col) (vf v : Value) (w : World) (adr : Nat → Addr) (hE : ErrsAt w adr [2, 3, 4]) (hf : IsLf w vf f) (hl : IsCols w v [a, b]) (fo : f.Ok) (oa : a.Ok) (ob : b.Ok) (ha : colErr f a false = .nil) (hb : colErr f b false = .nil) (la : a.rep.length ≤ 2000) (lb : b.rep.length ≤ 2000) :
    Calls Tryd.prog 12 #[vf, v] w fun e w' => (∃ u, e = .returned (.tuple #[u, .nilIface]) ∧ OwnCol w.heap.size w' u (a.app b)) ∧ Below w.heap.size w w' := by
  have lo : ∀ c ∈ [a, b], c.Ok := by intro c hc; simp at hc; rcases hc with rfl | rfl <;> assumption
  have hn : ∀ c ∈ [a, b], colErr f c false = .nil := by intro c hc; simp at hc; rcases hc with rfl | rfl <;> assumption
  have e : joinC f.id [a, b] = a.app b := by rw [(right_of ha).1.id]; exact joinC_two a b
  refine (join_all f [a, b] vf v w adr hE hf hl fo lo hn (by simp) (by simp; omega)).mono fun e' w' ⟨h1, h2⟩ => ⟨?_, h2⟩
  rcases h1 with ⟨_, u, h3, h4, _⟩ | ⟨h3, _⟩
  · rw [e] at h4; exact ⟨u, h3, h4⟩
  · simp at h3; omega
def JRes (B : Nat) (ok : Bool) (a b : Col) (u e : Value) (w : World) : Prop := ∃ (id : Int) (n1 n2 n3 c1 c2 c3 : Nat) (d1 d2 d3 : Option Addr), u = .agg #[.int .i64 id, .slice d1 n1 c1, .slice d2 n2 c2, .slice d3 n3 c3] ∧ (ok = true → e = .nilIface ∧ id = (a.app b).id ∧ OwnCol B w u (a.app b))
theorem isCol_form {w : World} {u : Value} {c : Col} (h : IsCol w u c) : ∃ (n1 n2 n3 c1 c2 c3 : Nat) (d1 d2 d3 : Option Addr), u = .agg #[.int .i64 c.id, .slice d1 n1 c1, .slice d2 n2 c2, .slice d3 n3 c3] := by
  obtain ⟨p, q, d, rfl, i1, i2, i3⟩ := h
  obtain ⟨x1, y1, rfl⟩ := i1.form; obtain ⟨x2, y2, rfl⟩ := i2.form; obtain ⟨x3, y3, rfl⟩ := i3.form
  exact ⟨_, _, _, _, _, _, _, _, _, rfl⟩
theorem join_two_any (f : Lf) (a b : Col) (vf v : Value) (w : World) (adr : Nat → Addr) (hE : ErrsAt w adr [2, 3, 4]) (hf : IsLf w vf f) (hl : IsCols w v [a, b]) (fo : f.Ok) (oa : a.Ok) (ob : b.Ok) (la : colErr f a false = .nil → a.rep.length ≤ 2000) (lb : colErr f b false = .nil → b.rep.length ≤ 2000) :
    Calls Tryd.prog 12 #[vf, v] w fun e w' => (∃ u e', e = .returned (.tuple #[u, e']) ∧ JRes w.heap.size ((colErr f a false).isNil && (colErr f b false).isNil) a b u e' w') ∧ Below w.heap.size w w' := by
  by_cases hn : colErr f a false = .nil ∧ colErr f b false = .nil
  · refine (join_two f a b vf v w adr hE hf hl fo oa ob hn.1 hn.2 (la hn.1) (lb hn.2)).mono fun e w' ⟨⟨u, h1, h2⟩, h3⟩ => ⟨⟨u, _, h1, ?_⟩, h3⟩
    obtain ⟨n1, n2, n3, c1, c2, c3, d1, d2, d3, rfl⟩ := isCol_form h2.isCol
    exact ⟨_, _, _, _, _, _, _, _, _, _, rfl, fun _ => ⟨rfl, rfl, h2⟩⟩
  · refine (join_two_bad f a b vf v w adr hE hf hl fo oa ob hn).mono fun e w' ⟨⟨u, h1⟩, h3⟩ => ⟨⟨_, u, h1, ⟨_, _, _, _, _, _, _, _, _, _, rfl, fun h => ?_⟩⟩, h3⟩
    rw [Bool.and_eq_true] at h
    exact absurd ⟨(GErr.isNil_iff _).1 h.1, (GErr.isNil_iff _).1 h.2⟩ hn
set_option maxRecDepth 100000 in
set_option maxHeartbeats 16000000 in
theorem sb_main (f : Lf) (a b : Col) (s : ByteArray) (v : Val) (vf va vb : Value) (w : World) (adr : Nat → Addr) (hE : ErrsAt w adr [1, 2, 3, 4]) (hf : IsLf w vf f) (ha : IsCol w va a) (hb : IsCol w vb b) (fo : f.Ok) (oa : a.Ok) (ob : b.Ok) (ra : a.Reach) (rb : b.Reach) (hs2 : s.size ≤ maxLen) (hv : v.Ok) :
    Calls Tryd.prog 3 #[vf, va, vb, .string s, .agg (valA v)] w fun e w' => e = .returned (.bool true) ∧ Below w.heap.size w w' := by
  have HF := Lib.hid (fun (w1 : World) (h : Below w.heap.size w w1) => hf.below h (Nat.le_refl _))
  have HCa := Lib.hid (fun (w1 : World) (h : Below w.heap.size w w1) => ha.below h (Nat.le_refl _))
  have HCb := Lib.hid (fun (w1 : World) (h : Below w.heap.size w w1) => hb.below h (Nat.le_refl _))
  have H2 := Lib.hid (fun (w1 : World) (h : Below w.heap.size w w1) => two_any w1 adr ((hE.sub (by decide)).below h))
  have HE := Lib.hid hE
  have HSa := Lib.hid (fun (w1 : World) (h : Below w.heap.size w w1) => slim_any f a vf va w1 (HF.out w1 h) (HCa.out w1 h) fo oa ra)
  have HSb := Lib.hid (fun (w1 : World) (h : Below w.heap.size w w1) => slim_any f b vf vb w1 (HF.out w1 h) (HCb.out w1 h) fo ob rb)
  have HOL := Lib.hid (fun (hp : f.path.length ≤ 100) (w1 : World) (h : Below w.heap.size w w1) => ownLeaf_any f vf w1 (HF.out w1 h) hp)
  have HOa := Lib.hid (fun (w1 : World) (h : Below w.heap.size w w1) => ownCol_any a va w1 (HCa.out w1 h) ra)
  have HOb := Lib.hid (fun (w1 : World) (h : Below w.heap.size w w1) => ownCol_any b vb w1 (HCb.out w1 h) rb)
  have HFa := Lib.hid (fun (v1 v2 : Value) (w1 : World) (h : Below w.heap.size w w1) (h1 : IsLf w1 v1 f) (h2 : IsCol w1 v2 a) => ofS_any f a v1 v2 w1 adr ((hE.sub (by decide)).below h) h1 h2 fo oa)
  have HFb := Lib.hid (fun (v1 v2 : Value) (w1 : World) (h : Below w.heap.size w w1) (h1 : IsLf w1 v1 f) (h2 : IsCol w1 v2 b) => ofS_any f b v1 v2 w1 adr ((hE.sub (by decide)).below h) h1 h2 fo ob)
  have HJ0 := Lib.hid (fun (la : colErr f a false = .nil → a.rep.length ≤ 2000) (lb : colErr f b false = .nil → b.rep.length ≤ 2000) (v1 v2 : Value) (w1 : World) (h : Below w.heap.size w w1) (h1 : IsLf w1 v1 f) (h2 : IsCols w1 v2 [a, b]) => join_two_any f a b v1 v2 w1 adr ((hE.sub (by decide)).below h) h1 h2 fo oa ob la lb)
  have HZ := Lib.hid (fun (ha : colErr f a false = .nil) (hb : colErr f b false = .nil) => sb_facts f a b fo oa ob ha hb)
  have HMa := Lib.hid (fun (hc : Col.Ok (a.app b)) (v1 v2 : Value) (w1 : World) (h : Below w.heap.size w w1) (h1 : IsLf w1 v1 f) (h2 : IsCol w1 v2 (a.app b)) (hn : colErr f (a.app b) false = .nil) => of_nil f (a.app b) v1 v2 w1 adr ((hE.sub (by decide)).below h) h1 h2 fo hc hn)
  have HMay := Lib.hid (fun (S : St) (hS : S.Ok) (w1 : World) (h : Below w.heap.size w w1) => may_any S hS s v hv w1 adr ((hE.sub (by decide)).below h))
  have Hv := Lib.hid hv; have Oa := Lib.hid oa; have Ob := Lib.hid ob
  obtain ⟨p, rfl, hp⟩ := hf
  obtain ⟨a1, a2, a3, rfl, ha1, ha2, ha3⟩ := ha
  obtain ⟨b1, b2, b3, rfl, hb1, hb2, hb3⟩ := hb
  clear hE hp ha1 ha2 ha3 hb1 hb2 hb3
  unfold maxLen at hs2
  generalize hSa : ofSt f a = Sa at *
  generalize hSb : ofSt f b = Sb at *
  generalize hna : (colErr f a false).isNil = na at *
  generalize hnb : (colErr f b false).isNil = nb at *
  have Hna := Lib.hid hna; have Hnb := Lib.hid hnb
  clear hSa hSb hna hnb fo oa ob ra rb hv
  unfold lfA colA at *
  unfold stA at HFa HFb
  unfold valA at *
  go_enter Tryd.func3, Tryd.ntmps3
  go_wp2_with fail
  refine (H2.out _ ((((Below.refl _ _).alloc (Nat.le_refl _) _).alloc (by simp) _).alloc (by simp; omega) _ |>.alloc (by simp; omega) _)).mono ?_; rintro e w1 ⟨rfl, hb1⟩
  obtain ⟨rA, rB, rC, rD, hbw, hz⟩ := rows4 hb1
  have RA := Lib.hid rA; have RB := Lib.hid rB; have RC := Lib.hid rC; have RD := Lib.hid rD; have Hbw := Lib.hid hbw
  clear hb1 rA rB rC rD hbw
  have cA := rowc RA.out; have cB := rowc RB.out; have cC := rowc RC.out; have cD := rowc RD.out
  go_wp2_with fail
  refine (HSa.out _ Hbw.out).mono ?_; rintro e w2 ⟨⟨q1, rfl, hpl, hsl1⟩, hb2⟩
  clear cA cB cC cD
  replace RA := Lib.hid (row_keep hb2 RA.out); replace RB := Lib.hid (row_keep hb2 RB.out); replace RC := Lib.hid (row_keep hb2 RC.out); replace RD := Lib.hid (row_keep hb2 RD.out); replace Hbw := Lib.hid (Hbw.out.trans (hb2.mono Hbw.out.size))
  clear hb2
  have cA := rowc RA.out; have cB := rowc RB.out; have cC := rowc RC.out; have cD := rowc RD.out
  have HS1 := Lib.hid hsl1
  clear hsl1
  cases q1 with
  | false =>
    go_wp2_with fail
    go_ret
    exact ⟨rfl, Hbw.out⟩
  | true =>
  replace HOL := Lib.hid (HOL.out (hpl rfl))
  clear hpl
  go_wp2_with fail
  refine (HSb.out _ Hbw.out).mono ?_; rintro e w3 ⟨⟨q2, rfl, -, hsl2⟩, hb3⟩
  clear cA cB cC cD
  replace RA := Lib.hid (row_keep hb3 RA.out); replace RB := Lib.hid (row_keep hb3 RB.out); replace RC := Lib.hid (row_keep hb3 RC.out); replace RD := Lib.hid (row_keep hb3 RD.out); replace Hbw := Lib.hid (Hbw.out.trans (hb3.mono Hbw.out.size))
  clear hb3
  have cA := rowc RA.out; have cB := rowc RB.out; have cC := rowc RC.out; have cD := rowc RD.out
  have HS2 := Lib.hid hsl2
  clear hsl2
  cases q2 with
  | false =>
    go_wp2_with fail
    go_ret
    exact ⟨rfl, Hbw.out⟩
  | true =>
  by_cases hs : s.size ≤ 100
  case neg =>
    have hs3 : ¬ (s.size : Int) ≤ 100 := by omega
    go_wp2_with fail
    go_ret
    exact ⟨rfl, Hbw.out⟩
  have hs3 : (s.size : Int) ≤ 100 := by omega
  have HJ := Lib.hid (HJ0.out (fun h => slim_le (HS1.out (fun x hx => by have := okP_size ((right_of h).1.vals x hx); omega) (by first | rfl | trivial))) (fun h => slim_le (HS2.out (fun x hx => by have := okP_size ((right_of h).1.vals x hx); omega) (by first | rfl | trivial))))
  clear HJ0
  go_upto_region 4 with fail
  go_cut [12, 13] (fun s8 s9 wx => ∃ g : Nat, s8 = .pointer (some ⟨g, 0, none⟩) ∧ wx.heap[g]? = some (.cells #[.int .i64 Sa.e, .int .i64 Sa.n, .bool Sa.has, .int .i64 Sa.lo.k, .int .i64 Sa.lo.n, .string Sa.lo.s, .int .i64 Sa.hi.k, .int .i64 Sa.hi.n, .string Sa.hi.s] 33 (0, 0)) ∧ Nb na s9 ∧ Below w3.heap.size w3 wx)
  case first =>

    have HB := Lib.hid (Below.refl w3.heap.size w3)
    have hl4 := row_lt RD.out
    go_region_held3 (fun w' => (∀ j, w'.cell? ⟨w.heap.size, j, none⟩ = (#[.int .i64 f.id, .int .i64 f.kind, .int .i64 f.mr, .int .i64 f.md, p] : Array Value)[j]?) ∧ (∀ j, w'.cell? ⟨w.heap.size + 1, j, none⟩ = (#[.int .i64 a.id, a1, a2, a3] : Array Value)[j]?)) (first | (with_reducible exact ⟨rowc RA.out, rowc RB.out⟩) | (with_reducible exact ⟨rowc_drew RA.out, rowc_drew RB.out⟩) | (with_reducible exact ⟨rowc_alloc RA.out _, rowc_alloc RB.out _⟩) | (with_reducible exact ⟨rowc_alloc2 RA.out _ _, rowc_alloc2 RB.out _ _⟩) | (with_reducible exact ⟨rowc_alloc_drew RA.out _, rowc_alloc_drew RB.out _⟩) | ((with_reducible refine ⟨rowc_set9 RA.out ?_ _ _ _ _ _ _ _ _ _, rowc_set9 RB.out ?_ _ _ _ _ _ _ _ _ _⟩) <;> omega))
      (first
      | (go_at_call 10; (with_reducible refine (HOL.out _ ?_).mono ?_); (focus (first | exact (Hbw.out.trans (HB.out.mono Hbw.out.size)) | exact (Hbw.out.trans (HB.out.mono Hbw.out.size)).drew | exact (Hbw.out.trans (HB.out.mono Hbw.out.size)).alloc (Hbw.out.trans (HB.out.mono Hbw.out.size)).size _ | exact ((Hbw.out.trans (HB.out.mono Hbw.out.size)).alloc (Hbw.out.trans (HB.out.mono Hbw.out.size)).size _).drew)); rintro e w9 ⟨⟨u1, rfl, hu1⟩, hb9⟩; (first | ((with_reducible have hq := rows1 hb9); obtain ⟨rG, hbs, hl⟩ := hq; have cG := rowc rG; have fG := rowf rG; have RG := Lib.hid rG; have hgz := HB.out.size; clear rG hl) | ((with_reducible have hq := rows1d hb9); obtain ⟨rG, hbs, hl⟩ := hq; have cG := rowc rG; have fG := rowf rG; have RG := Lib.hid rG; have hgz := HB.out.size; clear rG hl) | ((with_reducible have hbs := drew_first hb9); try (replace RG := Lib.hid (row_keep hbs RG.out); replace cG := rowc RG.out; replace fG := rowf RG.out)) | (have hbs := hb9; try (replace RG := Lib.hid (row_keep hbs RG.out); replace cG := rowc RG.out; replace fG := rowf RG.out))); have hU1 := hu1; replace RA := Lib.hid (row_keep hbs RA.out); replace RB := Lib.hid (row_keep hbs RB.out); replace RC := Lib.hid (row_keep hbs RC.out); replace RD := Lib.hid (row_keep hbs RD.out); (try (replace HU1 := Lib.hid (HU1.out.below hbs (Nat.le_refl _)))); (try (replace HU2 := Lib.hid (HU2.out.below hbs (Nat.le_refl _)))); (try (replace HU3 := Lib.hid (HU3.out.below hbs (Nat.le_refl _)))); replace HB := Lib.hid (HB.out.trans (hbs.mono HB.out.size)); clear hb9 hbs; have HU1 := Lib.hid hU1; clear hu1 hU1)
      | (go_at_call 11; (with_reducible refine (HOa.out _ ?_).mono ?_); (focus (first | exact (Hbw.out.trans (HB.out.mono Hbw.out.size)) | exact (Hbw.out.trans (HB.out.mono Hbw.out.size)).drew | exact (Hbw.out.trans (HB.out.mono Hbw.out.size)).alloc (Hbw.out.trans (HB.out.mono Hbw.out.size)).size _ | exact ((Hbw.out.trans (HB.out.mono Hbw.out.size)).alloc (Hbw.out.trans (HB.out.mono Hbw.out.size)).size _).drew)); rintro e w9 ⟨⟨u2, rfl, hu2⟩, hb9⟩; (first | ((with_reducible have hq := rows1 hb9); obtain ⟨rG, hbs, hl⟩ := hq; have cG := rowc rG; have fG := rowf rG; have RG := Lib.hid rG; have hgz := HB.out.size; clear rG hl) | ((with_reducible have hq := rows1d hb9); obtain ⟨rG, hbs, hl⟩ := hq; have cG := rowc rG; have fG := rowf rG; have RG := Lib.hid rG; have hgz := HB.out.size; clear rG hl) | ((with_reducible have hbs := drew_first hb9); try (replace RG := Lib.hid (row_keep hbs RG.out); replace cG := rowc RG.out; replace fG := rowf RG.out)) | (have hbs := hb9; try (replace RG := Lib.hid (row_keep hbs RG.out); replace cG := rowc RG.out; replace fG := rowf RG.out))); have hU2 := hu2; replace RA := Lib.hid (row_keep hbs RA.out); replace RB := Lib.hid (row_keep hbs RB.out); replace RC := Lib.hid (row_keep hbs RC.out); replace RD := Lib.hid (row_keep hbs RD.out); (try (replace HU1 := Lib.hid (HU1.out.below hbs (Nat.le_refl _)))); (try (replace HU2 := Lib.hid (HU2.out.below hbs (Nat.le_refl _)))); (try (replace HU3 := Lib.hid (HU3.out.below hbs (Nat.le_refl _)))); replace HB := Lib.hid (HB.out.trans (hbs.mono HB.out.size)); clear hb9 hbs; have HU2 := Lib.hid hU2; clear hu2 hU2)
      | (go_at_call 9; (with_reducible refine (HFa.out _ _ _ ?_ ?_ ?_).mono ?_); (focus (first | exact (Hbw.out.trans (HB.out.mono Hbw.out.size)) | exact (Hbw.out.trans (HB.out.mono Hbw.out.size)).drew | exact (Hbw.out.trans (HB.out.mono Hbw.out.size)).alloc (Hbw.out.trans (HB.out.mono Hbw.out.size)).size _ | exact ((Hbw.out.trans (HB.out.mono Hbw.out.size)).alloc (Hbw.out.trans (HB.out.mono Hbw.out.size)).size _).drew)); (focus (first | exact HU1.out | exact HU1.out.below (Below.refl _ _).drew (Nat.le_refl _) | exact HU1.out.below ((Below.refl _ _).alloc (Nat.le_refl _) _) (Nat.le_refl _) | exact HU1.out.below ((Below.refl _ _).alloc (Nat.le_refl _) _).drew (Nat.le_refl _))); (focus (first | exact HU2.out | exact HU2.out.below (Below.refl _ _).drew (Nat.le_refl _) | exact HU2.out.below ((Below.refl _ _).alloc (Nat.le_refl _) _) (Nat.le_refl _) | exact HU2.out.below ((Below.refl _ _).alloc (Nat.le_refl _) _).drew (Nat.le_refl _))); rintro e w9 ⟨⟨u8, rfl, hu8⟩, hb9⟩; (first | ((with_reducible have hq := rows1 hb9); obtain ⟨rG, hbs, hl⟩ := hq; have cG := rowc rG; have fG := rowf rG; have RG := Lib.hid rG; have hgz := HB.out.size; clear rG hl) | ((with_reducible have hq := rows1d hb9); obtain ⟨rG, hbs, hl⟩ := hq; have cG := rowc rG; have fG := rowf rG; have RG := Lib.hid rG; have hgz := HB.out.size; clear rG hl) | ((with_reducible have hbs := drew_first hb9); try (replace RG := Lib.hid (row_keep hbs RG.out); replace cG := rowc RG.out; replace fG := rowf RG.out)) | (have hbs := hb9; try (replace RG := Lib.hid (row_keep hbs RG.out); replace cG := rowc RG.out; replace fG := rowf RG.out))); replace RA := Lib.hid (row_keep hbs RA.out); replace RB := Lib.hid (row_keep hbs RB.out); replace RC := Lib.hid (row_keep hbs RC.out); replace RD := Lib.hid (row_keep hbs RD.out); (try (replace HU1 := Lib.hid (HU1.out.below hbs (Nat.le_refl _)))); (try (replace HU2 := Lib.hid (HU2.out.below hbs (Nat.le_refl _)))); (try (replace HU3 := Lib.hid (HU3.out.below hbs (Nat.le_refl _)))); replace HB := Lib.hid (HB.out.trans (hbs.mono HB.out.size)); clear hb9 hbs; have HU8 := Lib.hid hu8; clear hu8))
    all_goals (go_wp2_with fail; go_meet)
    all_goals first
      | (refine ⟨_, rfl, ?_, HU8.out, ?_⟩; (focus (with_reducible exact heap_alloc_new _ _)); (focus (with_reducible exact HB.out.alloc HB.out.size _)))
      | (refine ⟨_, rfl, ?_, HU8.out, ?_⟩; (focus (with_reducible exact row_set9 RG.out rfl _ _ _ _ _ _ _ _ _)); (focus (with_reducible exact below_set9 HB.out _ hgz _ _ _ _ _ _ _ _ _)))

  case rest =>
  obtain ⟨gX, rfl, rG, hu, hbx⟩ := hcut
  have RgX := Lib.hid rG; have HNa := Lib.hid hu
  clear cA cB cC cD
  replace RA := Lib.hid (row_keep hbx RA.out); replace RB := Lib.hid (row_keep hbx RB.out); replace RC := Lib.hid (row_keep hbx RC.out); replace RD := Lib.hid (row_keep hbx RD.out); replace Hbw := Lib.hid (Hbw.out.trans (hbx.mono Hbw.out.size))
  clear hbx
  clear rG hu
  obtain ⟨w4c, rfl⟩ : ∃ w5 : World, w5 = wc := ⟨_, rfl⟩
  have cA := rowc RA.out; have cB := rowc RB.out; have cC := rowc RC.out; have cD := rowc RD.out
  go_upto_region 5 with fail
  go_cut [14, 15] (fun s8 s9 wx => ∃ g : Nat, s8 = .pointer (some ⟨g, 0, none⟩) ∧ wx.heap[g]? = some (.cells #[.int .i64 Sb.e, .int .i64 Sb.n, .bool Sb.has, .int .i64 Sb.lo.k, .int .i64 Sb.lo.n, .string Sb.lo.s, .int .i64 Sb.hi.k, .int .i64 Sb.hi.n, .string Sb.hi.s] 33 (0, 0)) ∧ Nb nb s9 ∧ Below w4c.heap.size w4c wx)
  case first =>

    have HB := Lib.hid (Below.refl w4c.heap.size w4c)
    have hl4 := row_lt RD.out
    go_region_held3 (fun w' => (∀ j, w'.cell? ⟨w.heap.size, j, none⟩ = (#[.int .i64 f.id, .int .i64 f.kind, .int .i64 f.mr, .int .i64 f.md, p] : Array Value)[j]?) ∧ (∀ j, w'.cell? ⟨w.heap.size + 1 + 1, j, none⟩ = (#[.int .i64 b.id, b1, b2, b3] : Array Value)[j]?)) (first | (with_reducible exact ⟨rowc RA.out, rowc RC.out⟩) | (with_reducible exact ⟨rowc_drew RA.out, rowc_drew RC.out⟩) | (with_reducible exact ⟨rowc_alloc RA.out _, rowc_alloc RC.out _⟩) | (with_reducible exact ⟨rowc_alloc2 RA.out _ _, rowc_alloc2 RC.out _ _⟩) | (with_reducible exact ⟨rowc_alloc_drew RA.out _, rowc_alloc_drew RC.out _⟩) | ((with_reducible refine ⟨rowc_set9 RA.out ?_ _ _ _ _ _ _ _ _ _, rowc_set9 RC.out ?_ _ _ _ _ _ _ _ _ _⟩) <;> omega))
      (first
      | (go_at_call 10; (with_reducible refine (HOL.out _ ?_).mono ?_); (focus (first | exact (Hbw.out.trans (HB.out.mono Hbw.out.size)) | exact (Hbw.out.trans (HB.out.mono Hbw.out.size)).drew | exact (Hbw.out.trans (HB.out.mono Hbw.out.size)).alloc (Hbw.out.trans (HB.out.mono Hbw.out.size)).size _ | exact ((Hbw.out.trans (HB.out.mono Hbw.out.size)).alloc (Hbw.out.trans (HB.out.mono Hbw.out.size)).size _).drew)); rintro e w9 ⟨⟨u1, rfl, hu1⟩, hb9⟩; (first | ((with_reducible have hq := rows1 hb9); obtain ⟨rG, hbs, hl⟩ := hq; have cG := rowc rG; have fG := rowf rG; have RG := Lib.hid rG; have hgz := HB.out.size; clear rG hl) | ((with_reducible have hq := rows1d hb9); obtain ⟨rG, hbs, hl⟩ := hq; have cG := rowc rG; have fG := rowf rG; have RG := Lib.hid rG; have hgz := HB.out.size; clear rG hl) | ((with_reducible have hbs := drew_first hb9); try (replace RG := Lib.hid (row_keep hbs RG.out); replace cG := rowc RG.out; replace fG := rowf RG.out)) | (have hbs := hb9; try (replace RG := Lib.hid (row_keep hbs RG.out); replace cG := rowc RG.out; replace fG := rowf RG.out))); have hU1 := hu1; replace RA := Lib.hid (row_keep hbs RA.out); replace RB := Lib.hid (row_keep hbs RB.out); replace RC := Lib.hid (row_keep hbs RC.out); replace RD := Lib.hid (row_keep hbs RD.out); replace RgX := Lib.hid (row_keep hbs RgX.out); (try (replace HU1 := Lib.hid (HU1.out.below hbs (Nat.le_refl _)))); (try (replace HU2 := Lib.hid (HU2.out.below hbs (Nat.le_refl _)))); (try (replace HU3 := Lib.hid (HU3.out.below hbs (Nat.le_refl _)))); replace HB := Lib.hid (HB.out.trans (hbs.mono HB.out.size)); clear hb9 hbs; have HU1 := Lib.hid hU1; clear hu1 hU1)
      | (go_at_call 11; (with_reducible refine (HOb.out _ ?_).mono ?_); (focus (first | exact (Hbw.out.trans (HB.out.mono Hbw.out.size)) | exact (Hbw.out.trans (HB.out.mono Hbw.out.size)).drew | exact (Hbw.out.trans (HB.out.mono Hbw.out.size)).alloc (Hbw.out.trans (HB.out.mono Hbw.out.size)).size _ | exact ((Hbw.out.trans (HB.out.mono Hbw.out.size)).alloc (Hbw.out.trans (HB.out.mono Hbw.out.size)).size _).drew)); rintro e w9 ⟨⟨u2, rfl, hu2⟩, hb9⟩; (first | ((with_reducible have hq := rows1 hb9); obtain ⟨rG, hbs, hl⟩ := hq; have cG := rowc rG; have fG := rowf rG; have RG := Lib.hid rG; have hgz := HB.out.size; clear rG hl) | ((with_reducible have hq := rows1d hb9); obtain ⟨rG, hbs, hl⟩ := hq; have cG := rowc rG; have fG := rowf rG; have RG := Lib.hid rG; have hgz := HB.out.size; clear rG hl) | ((with_reducible have hbs := drew_first hb9); try (replace RG := Lib.hid (row_keep hbs RG.out); replace cG := rowc RG.out; replace fG := rowf RG.out)) | (have hbs := hb9; try (replace RG := Lib.hid (row_keep hbs RG.out); replace cG := rowc RG.out; replace fG := rowf RG.out))); have hU2 := hu2; replace RA := Lib.hid (row_keep hbs RA.out); replace RB := Lib.hid (row_keep hbs RB.out); replace RC := Lib.hid (row_keep hbs RC.out); replace RD := Lib.hid (row_keep hbs RD.out); replace RgX := Lib.hid (row_keep hbs RgX.out); (try (replace HU1 := Lib.hid (HU1.out.below hbs (Nat.le_refl _)))); (try (replace HU2 := Lib.hid (HU2.out.below hbs (Nat.le_refl _)))); (try (replace HU3 := Lib.hid (HU3.out.below hbs (Nat.le_refl _)))); replace HB := Lib.hid (HB.out.trans (hbs.mono HB.out.size)); clear hb9 hbs; have HU2 := Lib.hid hU2; clear hu2 hU2)
      | (go_at_call 9; (with_reducible refine (HFb.out _ _ _ ?_ ?_ ?_).mono ?_); (focus (first | exact (Hbw.out.trans (HB.out.mono Hbw.out.size)) | exact (Hbw.out.trans (HB.out.mono Hbw.out.size)).drew | exact (Hbw.out.trans (HB.out.mono Hbw.out.size)).alloc (Hbw.out.trans (HB.out.mono Hbw.out.size)).size _ | exact ((Hbw.out.trans (HB.out.mono Hbw.out.size)).alloc (Hbw.out.trans (HB.out.mono Hbw.out.size)).size _).drew)); (focus (first | exact HU1.out | exact HU1.out.below (Below.refl _ _).drew (Nat.le_refl _) | exact HU1.out.below ((Below.refl _ _).alloc (Nat.le_refl _) _) (Nat.le_refl _) | exact HU1.out.below ((Below.refl _ _).alloc (Nat.le_refl _) _).drew (Nat.le_refl _))); (focus (first | exact HU2.out | exact HU2.out.below (Below.refl _ _).drew (Nat.le_refl _) | exact HU2.out.below ((Below.refl _ _).alloc (Nat.le_refl _) _) (Nat.le_refl _) | exact HU2.out.below ((Below.refl _ _).alloc (Nat.le_refl _) _).drew (Nat.le_refl _))); rintro e w9 ⟨⟨u8, rfl, hu8⟩, hb9⟩; (first | ((with_reducible have hq := rows1 hb9); obtain ⟨rG, hbs, hl⟩ := hq; have cG := rowc rG; have fG := rowf rG; have RG := Lib.hid rG; have hgz := HB.out.size; clear rG hl) | ((with_reducible have hq := rows1d hb9); obtain ⟨rG, hbs, hl⟩ := hq; have cG := rowc rG; have fG := rowf rG; have RG := Lib.hid rG; have hgz := HB.out.size; clear rG hl) | ((with_reducible have hbs := drew_first hb9); try (replace RG := Lib.hid (row_keep hbs RG.out); replace cG := rowc RG.out; replace fG := rowf RG.out)) | (have hbs := hb9; try (replace RG := Lib.hid (row_keep hbs RG.out); replace cG := rowc RG.out; replace fG := rowf RG.out))); replace RA := Lib.hid (row_keep hbs RA.out); replace RB := Lib.hid (row_keep hbs RB.out); replace RC := Lib.hid (row_keep hbs RC.out); replace RD := Lib.hid (row_keep hbs RD.out); replace RgX := Lib.hid (row_keep hbs RgX.out); (try (replace HU1 := Lib.hid (HU1.out.below hbs (Nat.le_refl _)))); (try (replace HU2 := Lib.hid (HU2.out.below hbs (Nat.le_refl _)))); (try (replace HU3 := Lib.hid (HU3.out.below hbs (Nat.le_refl _)))); replace HB := Lib.hid (HB.out.trans (hbs.mono HB.out.size)); clear hb9 hbs; have HU8 := Lib.hid hu8; clear hu8))
    all_goals (go_wp2_with fail; go_meet)
    all_goals first
      | (refine ⟨_, rfl, ?_, HU8.out, ?_⟩; (focus (with_reducible exact heap_alloc_new _ _)); (focus (with_reducible exact HB.out.alloc HB.out.size _)))
      | (refine ⟨_, rfl, ?_, HU8.out, ?_⟩; (focus (with_reducible exact row_set9 RG.out rfl _ _ _ _ _ _ _ _ _)); (focus (with_reducible exact below_set9 HB.out _ hgz _ _ _ _ _ _ _ _ _)))

  case rest =>
  obtain ⟨gY, rfl, rG, hu, hbx⟩ := hcut
  have RgY := Lib.hid rG; have HNb := Lib.hid hu
  clear cA cB cC cD
  replace RA := Lib.hid (row_keep hbx RA.out); replace RB := Lib.hid (row_keep hbx RB.out); replace RC := Lib.hid (row_keep hbx RC.out); replace RD := Lib.hid (row_keep hbx RD.out); replace RgX := Lib.hid (row_keep hbx RgX.out); replace Hbw := Lib.hid (Hbw.out.trans (hbx.mono Hbw.out.size))
  clear hbx
  clear rG hu
  obtain ⟨w5c, rfl⟩ : ∃ w5 : World, w5 = wc := ⟨_, rfl⟩
  have cA := rowc RA.out; have cB := rowc RB.out; have cC := rowc RC.out; have cD := rowc RD.out
  go_upto_region 6 with fail
  go_cut [16, 17] (fun s8 s9 wx => ∃ (g : Nat) (jd : Int) (n1 n2 n3 c1 c2 c3 : Nat) (d1 d2 d3 : Option Addr), s8 = .pointer (some ⟨g, 0, none⟩) ∧ wx.heap[g]? = some (.cells #[.int .i64 jd, .slice d1 n1 c1, .slice d2 n2 c2, .slice d3 n3 c3] 27 (0, 0)) ∧ (((na && nb) = true) → s9 = .nilIface ∧ jd = (a.app b).id ∧ IsCol wx (.agg #[.int .i64 jd, .slice d1 n1 c1, .slice d2 n2 c2, .slice d3 n3 c3]) (a.app b)) ∧ Below w5c.heap.size w5c wx)
  case first =>

    have HB := Lib.hid (Below.refl w5c.heap.size w5c)
    have hl4 := row_lt RD.out
    go_region_held3 (fun w' => (∀ j, w'.cell? ⟨w.heap.size, j, none⟩ = (#[.int .i64 f.id, .int .i64 f.kind, .int .i64 f.mr, .int .i64 f.md, p] : Array Value)[j]?) ∧ (∀ j, w'.cell? ⟨w.heap.size + 1, j, none⟩ = (#[.int .i64 a.id, a1, a2, a3] : Array Value)[j]?) ∧ (∀ j, w'.cell? ⟨w.heap.size + 1 + 1, j, none⟩ = (#[.int .i64 b.id, b1, b2, b3] : Array Value)[j]?)) (first | (with_reducible exact ⟨rowc RA.out, rowc RB.out, rowc RC.out⟩) | (with_reducible exact ⟨rowc_drew RA.out, rowc_drew RB.out, rowc_drew RC.out⟩) | (with_reducible exact ⟨rowc_alloc RA.out _, rowc_alloc RB.out _, rowc_alloc RC.out _⟩) | (with_reducible exact ⟨rowc_alloc2 RA.out _ _, rowc_alloc2 RB.out _ _, rowc_alloc2 RC.out _ _⟩) | (with_reducible exact ⟨rowc_alloc_drew RA.out _, rowc_alloc_drew RB.out _, rowc_alloc_drew RC.out _⟩) | ((with_reducible refine ⟨rowc_set4 RA.out ?_ _ _ _ _, rowc_set4 RB.out ?_ _ _ _ _, rowc_set4 RC.out ?_ _ _ _ _⟩) <;> omega))
      (first
      | (go_at_call 10; (with_reducible refine (HOL.out _ ?_).mono ?_); (focus (first | exact (Hbw.out.trans (HB.out.mono Hbw.out.size)) | exact (Hbw.out.trans (HB.out.mono Hbw.out.size)).drew | exact (Hbw.out.trans (HB.out.mono Hbw.out.size)).alloc (Hbw.out.trans (HB.out.mono Hbw.out.size)).size _ | exact ((Hbw.out.trans (HB.out.mono Hbw.out.size)).alloc (Hbw.out.trans (HB.out.mono Hbw.out.size)).size _).drew)); rintro e w9 ⟨⟨u1, rfl, hu1⟩, hb9⟩; (first | ((with_reducible have hq := rows1 hb9); obtain ⟨rG, hbs, hl⟩ := hq; have cG := rowc rG; have fG := rowf rG; have RG := Lib.hid rG; have hgz := HB.out.size; clear rG hl) | ((with_reducible have hq := rows1d hb9); obtain ⟨rG, hbs, hl⟩ := hq; have cG := rowc rG; have fG := rowf rG; have RG := Lib.hid rG; have hgz := HB.out.size; clear rG hl) | ((with_reducible have hbs := drew_first hb9); try (replace RG := Lib.hid (row_keep hbs RG.out); replace cG := rowc RG.out; replace fG := rowf RG.out)) | (have hbs := hb9; try (replace RG := Lib.hid (row_keep hbs RG.out); replace cG := rowc RG.out; replace fG := rowf RG.out))); have hU1 := hu1; replace RA := Lib.hid (row_keep hbs RA.out); replace RB := Lib.hid (row_keep hbs RB.out); replace RC := Lib.hid (row_keep hbs RC.out); replace RD := Lib.hid (row_keep hbs RD.out); (try (replace HU1 := Lib.hid (HU1.out.below hbs (Nat.le_refl _)))); (try (replace HU2 := Lib.hid (HU2.out.below hbs (Nat.le_refl _)))); (try (replace HU3 := Lib.hid (HU3.out.below hbs (Nat.le_refl _)))); replace HB := Lib.hid (HB.out.trans (hbs.mono HB.out.size)); clear hb9 hbs; have HU1 := Lib.hid hU1; clear hu1 hU1)
      | (go_at_call 11; (with_reducible refine (HOa.out _ ?_).mono ?_); (focus (first | exact (Hbw.out.trans (HB.out.mono Hbw.out.size)) | exact (Hbw.out.trans (HB.out.mono Hbw.out.size)).drew | exact (Hbw.out.trans (HB.out.mono Hbw.out.size)).alloc (Hbw.out.trans (HB.out.mono Hbw.out.size)).size _ | exact ((Hbw.out.trans (HB.out.mono Hbw.out.size)).alloc (Hbw.out.trans (HB.out.mono Hbw.out.size)).size _).drew)); rintro e w9 ⟨⟨u2, rfl, hu2⟩, hb9⟩; obtain ⟨x1, x2, x3, rfl, hy⟩ := hu2; have hu2 : IsCol w9 (.agg #[.int .i64 a.id, x1, x2, x3]) a := ⟨x1, x2, x3, rfl, hy⟩; clear hy; unfold colA; (first | ((with_reducible have hq := rows1 hb9); obtain ⟨rG, hbs, hl⟩ := hq; have cG := rowc rG; have fG := rowf rG; have RG := Lib.hid rG; have hgz := HB.out.size; clear rG hl) | ((with_reducible have hq := rows1d hb9); obtain ⟨rG, hbs, hl⟩ := hq; have cG := rowc rG; have fG := rowf rG; have RG := Lib.hid rG; have hgz := HB.out.size; clear rG hl) | ((with_reducible have hbs := drew_first hb9); try (replace RG := Lib.hid (row_keep hbs RG.out); replace cG := rowc RG.out; replace fG := rowf RG.out)) | (have hbs := hb9; try (replace RG := Lib.hid (row_keep hbs RG.out); replace cG := rowc RG.out; replace fG := rowf RG.out))); have hU2 := hu2; replace RA := Lib.hid (row_keep hbs RA.out); replace RB := Lib.hid (row_keep hbs RB.out); replace RC := Lib.hid (row_keep hbs RC.out); replace RD := Lib.hid (row_keep hbs RD.out); (try (replace HU1 := Lib.hid (HU1.out.below hbs (Nat.le_refl _)))); (try (replace HU2 := Lib.hid (HU2.out.below hbs (Nat.le_refl _)))); (try (replace HU3 := Lib.hid (HU3.out.below hbs (Nat.le_refl _)))); replace HB := Lib.hid (HB.out.trans (hbs.mono HB.out.size)); clear hb9 hbs; have HU2 := Lib.hid hU2; clear hu2 hU2)
      | (go_at_call 11; (with_reducible refine (HOb.out _ ?_).mono ?_); (focus (first | exact (Hbw.out.trans (HB.out.mono Hbw.out.size)) | exact (Hbw.out.trans (HB.out.mono Hbw.out.size)).drew | exact (Hbw.out.trans (HB.out.mono Hbw.out.size)).alloc (Hbw.out.trans (HB.out.mono Hbw.out.size)).size _ | exact ((Hbw.out.trans (HB.out.mono Hbw.out.size)).alloc (Hbw.out.trans (HB.out.mono Hbw.out.size)).size _).drew)); rintro e w9 ⟨⟨u2, rfl, hu2⟩, hb9⟩; obtain ⟨y1, y2, y3, rfl, hy⟩ := hu2; have hu2 : IsCol w9 (.agg #[.int .i64 b.id, y1, y2, y3]) b := ⟨y1, y2, y3, rfl, hy⟩; clear hy; unfold colA; (first | ((with_reducible have hq := rows1 hb9); obtain ⟨rG, hbs, hl⟩ := hq; have cG := rowc rG; have fG := rowf rG; have RG := Lib.hid rG; have hgz := HB.out.size; clear rG hl) | ((with_reducible have hq := rows1d hb9); obtain ⟨rG, hbs, hl⟩ := hq; have cG := rowc rG; have fG := rowf rG; have RG := Lib.hid rG; have hgz := HB.out.size; clear rG hl) | ((with_reducible have hbs := drew_first hb9); try (replace RG := Lib.hid (row_keep hbs RG.out); replace cG := rowc RG.out; replace fG := rowf RG.out)) | (have hbs := hb9; try (replace RG := Lib.hid (row_keep hbs RG.out); replace cG := rowc RG.out; replace fG := rowf RG.out))); have hU3 := hu2; replace RA := Lib.hid (row_keep hbs RA.out); replace RB := Lib.hid (row_keep hbs RB.out); replace RC := Lib.hid (row_keep hbs RC.out); replace RD := Lib.hid (row_keep hbs RD.out); (try (replace HU1 := Lib.hid (HU1.out.below hbs (Nat.le_refl _)))); (try (replace HU2 := Lib.hid (HU2.out.below hbs (Nat.le_refl _)))); (try (replace HU3 := Lib.hid (HU3.out.below hbs (Nat.le_refl _)))); replace HB := Lib.hid (HB.out.trans (hbs.mono HB.out.size)); clear hb9 hbs; have HU3 := Lib.hid hU3; clear hu2 hU3)
      | (go_at_call 12; (with_reducible refine (HJ.out _ _ _ ?_ ?_ ?_).mono ?_); (focus (first | (with_reducible exact belA1 (Hbw.out.trans (HB.out.mono Hbw.out.size)) (Hbw.out.trans (HB.out.mono Hbw.out.size)).size _) | (with_reducible exact belA2 (Hbw.out.trans (HB.out.mono Hbw.out.size)) (Hbw.out.trans (HB.out.mono Hbw.out.size)).size _ _))); (focus (first | (with_reducible exact isLf1 HU1.out _) | (with_reducible exact isLf2 HU1.out _ _))); (focus (first | (with_reducible exact isCols_1 HU2.out HU3.out) | (with_reducible exact isCols_2 HU2.out HU3.out) | (with_reducible exact isCols_3 HU2.out HU3.out))); rintro e w9 ⟨⟨u8, e8, rfl, hu8⟩, hb9⟩; obtain ⟨jd, n1, n2, n3, c1, c2, c3, d1, d2, d3, rfl, hj⟩ := hu8; have HJ8 := Lib.hid hj; clear hj; (first | ((with_reducible have hq := rows2 hb9); obtain ⟨rP, rQ, hbs, hl⟩ := hq; have RP := Lib.hid rP; have RQ := Lib.hid rQ; have cP := rowc rP; have fP := rowf rP; have cQ := rowc rQ; have fQ := rowf rQ; have hgz := HB.out.size; clear rP rQ hl) | ((with_reducible have hq := rows1 hb9); obtain ⟨rP, hbs, hl⟩ := hq; clear rP hl; try (have hgl := row_lt RG.out; replace RG := Lib.hid (row_keep hbs RG.out); replace cG := rowc RG.out; replace fG := rowf RG.out))); replace RA := Lib.hid (row_keep hbs RA.out); replace RB := Lib.hid (row_keep hbs RB.out); replace RC := Lib.hid (row_keep hbs RC.out); replace RD := Lib.hid (row_keep hbs RD.out); replace HB := Lib.hid (HB.out.trans (hbs.mono HB.out.size)); clear hb9 hbs))
    all_goals (go_wp2_with fail; go_meet)
    all_goals first
      | (refine ⟨_, jd, n1, n2, n3, c1, c2, c3, d1, d2, d3, rfl, ?_, ?_, ?_⟩; (focus (with_reducible exact heap_alloc_new _ _)); (focus (intro hk; obtain ⟨k1, k2, k3⟩ := HJ8.out hk; exact ⟨k1, k2, k3.isCol.below ((Below.refl _ _).alloc (Nat.le_refl _) _) (Nat.le_refl _)⟩)); (focus (with_reducible exact HB.out.alloc HB.out.size _)))
      | (refine ⟨_, jd, n1, n2, n3, c1, c2, c3, d1, d2, d3, rfl, ?_, ?_, ?_⟩; (focus (first | (with_reducible exact row_set4 RG.out rfl _ _ _ _) | (with_reducible exact row_set4 RP.out rfl _ _ _ _) | (with_reducible exact row_set4 RQ.out rfl _ _ _ _))); (focus (intro hk; obtain ⟨k1, k2, k3⟩ := HJ8.out hk; exact ⟨k1, k2, (k3.kept fun i hi _ => set4_other (by simp at hi; omega) _ _ _ _).isCol⟩)); (focus ((with_reducible refine below_set4 HB.out _ ?_ _ _ _ _); omega)))

  case rest =>
  obtain ⟨gJ, jd, n1, n2, n3, c1, c2, c3, d1, d2, d3, rfl, rJ, hj, hbx⟩ := hcut
  have RgJ := Lib.hid rJ; have HJ8 := Lib.hid hj
  clear cA cB cC cD
  replace RA := Lib.hid (row_keep hbx RA.out); replace RB := Lib.hid (row_keep hbx RB.out); replace RC := Lib.hid (row_keep hbx RC.out); replace RD := Lib.hid (row_keep hbx RD.out); replace RgX := Lib.hid (row_keep hbx RgX.out); replace RgY := Lib.hid (row_keep hbx RgY.out); replace Hbw := Lib.hid (Hbw.out.trans (hbx.mono Hbw.out.size))
  clear hbx
  clear rJ hj
  obtain ⟨w6c, rfl⟩ : ∃ w5 : World, w5 = wc := ⟨_, rfl⟩
  have ha1 := HNa.out; have hb1 := HNb.out
  rcases Bool.eq_false_or_eq_true na with hna | hna
  case inr =>
    obtain ⟨T9, p9, rfl⟩ := ha1.2 hna
    clear ha1 hb1 hna
    go_wp2_with fail
    go_ret
    exact ⟨rfl, Hbw.out⟩
  rcases Bool.eq_false_or_eq_true nb with hnb | hnb
  case inr =>
    obtain rfl := ha1.1 hna
    obtain ⟨T9, p9, rfl⟩ := hb1.2 hnb
    clear ha1 hb1 hna hnb
    go_wp2_with fail
    go_ret
    exact ⟨rfl, Hbw.out⟩
  obtain rfl := ha1.1 hna
  obtain rfl := hb1.1 hnb
  obtain ⟨rfl, rfl, hcj⟩ := HJ8.out (by rw [hna, hnb]; rfl)
  have ea : colErr f a false = .nil := (GErr.isNil_iff _).1 (Hna.out.trans hna)
  have eb : colErr f b false = .nil := (GErr.isNil_iff _).1 (Hnb.out.trans hnb)
  have HCj := Lib.hid hcj
  have Ea := Lib.hid ea; have Eb := Lib.hid eb
  obtain ⟨z1, z2, z3, z4, z5⟩ := HZ.out ea eb
  clear ha1 hb1 hna hnb HJ8 HNa HNb hcj
  have la := slim_le (HS1.out (fun x hx => by have := okP_size ((right_of ea).1.vals x hx); omega) (by first | rfl | trivial))
  have lb := slim_le (HS2.out (fun x hx => by have := okP_size ((right_of eb).1.vals x hx); omega) (by first | rfl | trivial))
  obtain ⟨Sm, hSm⟩ : ∃ S, S = knownSt (a.app b) := ⟨_, rfl⟩
  have Z5 := Lib.hid z5; have HSm := Lib.hid hSm
  have hoc := app_ok Oa.out Ob.out (right_of ea).1 (right_of eb).1 la lb
  have HOc := Lib.hid hoc
  have HO9 := fun (v1 v2 : Value) (w1 : World) (h : Below w.heap.size w w1) (h1 : IsLf w1 v1 f) (h2 : IsCol w1 v2 (a.app b)) => HMa.out hoc v1 v2 w1 h h1 h2 z1
  rw [← hSm] at HO9
  unfold stA at HO9
  have HOZ := Lib.hid HO9
  have HG := fun w1 => mergeP_some (knownSt a) (knownSt b) Sm (knownSt_okJ Oa.out (right_of ea).1 (by omega)).1 (knownSt_okJ Ob.out (right_of eb).1 (by omega)).1 (knownSt_okJ Oa.out (right_of ea).1 (by omega)).2.1 (knownSt_okJ Oa.out (right_of ea).1 (by omega)).2.2.1 (knownSt_okJ Ob.out (right_of eb).1 (by omega)).2.1 (knownSt_okJ Ob.out (right_of eb).1 (by omega)).2.2.1 (knownSt_okJ Oa.out (right_of ea).1 (by omega)).2.2.2.1 (knownSt_okJ Oa.out (right_of ea).1 (by omega)).2.2.2.2 (knownSt_okJ Ob.out (right_of eb).1 (by omega)).2.2.2.1 (knownSt_okJ Ob.out (right_of eb).1 (by omega)).2.2.2.2 (by rw [hSm]; exact z4) w1
  rw [← z2, ← z3] at HG
  unfold stA at HG
  have HMg := Lib.hid HG
  have hSmo : Sm.Ok := by
    rw [hSm]
    exact (knownSt_okJ hoc z5 (by show (a.rep ++ b.rep).length ≤ 20000; rw [List.length_append]; omega)).1
  have HMy := fun w1 h => HMay.out Sm hSmo w1 h
  unfold stA at HMy
  have HMY := Lib.hid HMy
  clear HMay HMy HG HO9 hSm hoc z1 z2 z3 z4 z5 ea eb hSmo HMa HZ HFa HFb HJ HOa HOb HSa HSb H2
  generalize hcx : a.app b = cx at *
  clear hcx
  have HU2 := HCj
  clear HCj
  have cA := rowc RA.out; have cgJ := rowc RgJ.out
  go_upto_region 9 with fail
  go_cut [18, 13] (fun s8 s9 wx => ∃ g : Nat, s8 = .pointer (some ⟨g, 0, none⟩) ∧ wx.heap[g]? = some (.cells #[.int .i64 Sm.e, .int .i64 Sm.n, .bool Sm.has, .int .i64 Sm.lo.k, .int .i64 Sm.lo.n, .string Sm.lo.s, .int .i64 Sm.hi.k, .int .i64 Sm.hi.n, .string Sm.hi.s] 33 (0, 0)) ∧ s9 = .nilIface ∧ Below w6c.heap.size w6c wx)
  case first =>
    have HB := Lib.hid (Below.refl w6c.heap.size w6c)
    have hl4 := row_lt RgJ.out
    have hl5 := row_lt RA.out
    go_region_held3 (fun w' => (∀ j, w'.cell? ⟨w.heap.size, j, none⟩ = (#[.int .i64 f.id, .int .i64 f.kind, .int .i64 f.mr, .int .i64 f.md, p] : Array Value)[j]?) ∧ (∀ j, w'.cell? ⟨gJ, j, none⟩ = (#[.int .i64 cx.id, .slice d1 n1 c1, .slice d2 n2 c2, .slice d3 n3 c3] : Array Value)[j]?)) (first | (with_reducible exact ⟨rowc RA.out, rowc RgJ.out⟩) | (with_reducible exact ⟨rowc_drew RA.out, rowc_drew RgJ.out⟩) | (with_reducible exact ⟨rowc_alloc RA.out _, rowc_alloc RgJ.out _⟩) | (with_reducible exact ⟨rowc_alloc2 RA.out _ _, rowc_alloc2 RgJ.out _ _⟩) | (with_reducible exact ⟨rowc_alloc_drew RA.out _, rowc_alloc_drew RgJ.out _⟩) | ((with_reducible refine ⟨rowc_set9 RA.out ?_ _ _ _ _ _ _ _ _ _, rowc_set9 RgJ.out ?_ _ _ _ _ _ _ _ _ _⟩) <;> omega))
      (first
      | (go_at_call 10; (with_reducible refine (HOL.out _ ?_).mono ?_); (focus (first | exact (Hbw.out.trans (HB.out.mono Hbw.out.size)) | exact (Hbw.out.trans (HB.out.mono Hbw.out.size)).drew | exact (Hbw.out.trans (HB.out.mono Hbw.out.size)).alloc (Hbw.out.trans (HB.out.mono Hbw.out.size)).size _ | exact ((Hbw.out.trans (HB.out.mono Hbw.out.size)).alloc (Hbw.out.trans (HB.out.mono Hbw.out.size)).size _).drew)); rintro e w9 ⟨⟨u1, rfl, hu1⟩, hb9⟩; (first | ((with_reducible have hq := rows1 hb9); obtain ⟨rG, hbs, hl⟩ := hq; have cG := rowc rG; have fG := rowf rG; have RG := Lib.hid rG; have hgz := HB.out.size; clear rG hl) | ((with_reducible have hq := rows1d hb9); obtain ⟨rG, hbs, hl⟩ := hq; have cG := rowc rG; have fG := rowf rG; have RG := Lib.hid rG; have hgz := HB.out.size; clear rG hl) | ((with_reducible have hbs := drew_first hb9); try (replace RG := Lib.hid (row_keep hbs RG.out); replace cG := rowc RG.out; replace fG := rowf RG.out)) | (have hbs := hb9; try (replace RG := Lib.hid (row_keep hbs RG.out); replace cG := rowc RG.out; replace fG := rowf RG.out))); have hU1 := hu1; replace RA := Lib.hid (row_keep hbs RA.out); replace RgJ := Lib.hid (row_keep hbs RgJ.out); (try (replace HU1 := Lib.hid (HU1.out.below hbs (Nat.le_refl _)))); (try (replace HU2 := Lib.hid (HU2.out.below hbs (Nat.le_refl _)))); (try (replace HU3 := Lib.hid (HU3.out.below hbs (Nat.le_refl _)))); replace HB := Lib.hid (HB.out.trans (hbs.mono HB.out.size)); clear hb9 hbs; have HU1 := Lib.hid hU1; clear hu1 hU1)
      | (go_at_call 9; (with_reducible refine (HOZ.out _ _ _ ?_ ?_ ?_).mono ?_); (focus (first | exact (Hbw.out.trans (HB.out.mono Hbw.out.size)) | exact (Hbw.out.trans (HB.out.mono Hbw.out.size)).drew | exact (Hbw.out.trans (HB.out.mono Hbw.out.size)).alloc (Hbw.out.trans (HB.out.mono Hbw.out.size)).size _ | exact ((Hbw.out.trans (HB.out.mono Hbw.out.size)).alloc (Hbw.out.trans (HB.out.mono Hbw.out.size)).size _).drew)); (focus (first | exact HU1.out | exact HU1.out.below (Below.refl _ _).drew (Nat.le_refl _) | exact HU1.out.below ((Below.refl _ _).alloc (Nat.le_refl _) _) (Nat.le_refl _) | exact HU1.out.below ((Below.refl _ _).alloc (Nat.le_refl _) _).drew (Nat.le_refl _))); (focus (first | exact HU2.out | exact HU2.out.below (Below.refl _ _).drew (Nat.le_refl _) | exact HU2.out.below ((Below.refl _ _).alloc (Nat.le_refl _) _) (Nat.le_refl _) | exact HU2.out.below ((Below.refl _ _).alloc (Nat.le_refl _) _).drew (Nat.le_refl _))); rintro e w9 ⟨rfl, hb9⟩; (first | ((with_reducible have hq := rows1 hb9); obtain ⟨rG, hbs, hl⟩ := hq; have cG := rowc rG; have fG := rowf rG; have RG := Lib.hid rG; have hgz := HB.out.size; clear rG hl) | ((with_reducible have hq := rows1d hb9); obtain ⟨rG, hbs, hl⟩ := hq; have cG := rowc rG; have fG := rowf rG; have RG := Lib.hid rG; have hgz := HB.out.size; clear rG hl) | ((with_reducible have hbs := drew_first hb9); try (replace RG := Lib.hid (row_keep hbs RG.out); replace cG := rowc RG.out; replace fG := rowf RG.out)) | (have hbs := hb9; try (replace RG := Lib.hid (row_keep hbs RG.out); replace cG := rowc RG.out; replace fG := rowf RG.out))); replace RA := Lib.hid (row_keep hbs RA.out); replace RgJ := Lib.hid (row_keep hbs RgJ.out); (try (replace HU1 := Lib.hid (HU1.out.below hbs (Nat.le_refl _)))); (try (replace HU2 := Lib.hid (HU2.out.below hbs (Nat.le_refl _)))); (try (replace HU3 := Lib.hid (HU3.out.below hbs (Nat.le_refl _)))); replace HB := Lib.hid (HB.out.trans (hbs.mono HB.out.size)); clear hb9 hbs))
    all_goals (go_wp2_with fail; go_meet)
    all_goals first
      | (refine ⟨_, rfl, ?_, rfl, ?_⟩; (focus (with_reducible exact heap_alloc_new _ _)); (focus (with_reducible exact HB.out.alloc HB.out.size _)))
      | (refine ⟨_, rfl, ?_, rfl, ?_⟩; (focus (with_reducible exact row_set9 RG.out rfl _ _ _ _ _ _ _ _ _)); (focus (with_reducible exact below_set9 HB.out _ hgz _ _ _ _ _ _ _ _ _)))
  case rest =>
  obtain ⟨gZ, rfl, rG, rfl, hbx⟩ := hcut
  have RgZ := Lib.hid rG
  clear cA cgJ
  replace HU2 := Lib.hid (HU2.out.below hbx (Nat.le_refl _)); replace RgX := Lib.hid (row_keep hbx RgX.out); replace RgY := Lib.hid (row_keep hbx RgY.out); replace RgJ := Lib.hid (row_keep hbx RgJ.out); replace RD := Lib.hid (row_keep hbx RD.out); replace Hbw := Lib.hid (Hbw.out.trans (hbx.mono Hbw.out.size))
  clear hbx rG RA RB RC
  obtain ⟨w9c, rfl⟩ : ∃ w5 : World, w5 = wc := ⟨_, rfl⟩
  have cX := rowc RgX.out; have cY := rowc RgY.out
  go_wp2_with fail
  refine (HMg.out _).mono ?_; rintro e w10 ⟨rfl, hbx⟩
  replace HU2 := Lib.hid (HU2.out.below hbx (Nat.le_refl _)); replace RgJ := Lib.hid (row_keep hbx RgJ.out); replace RgZ := Lib.hid (row_keep hbx RgZ.out); replace RD := Lib.hid (row_keep hbx RD.out); replace Hbw := Lib.hid (Hbw.out.trans (hbx.mono Hbw.out.size))
  clear hbx cX cY RgX RgY
  go_upto_region 11 with fail
  have hbx := (Below.refl w10.heap.size w10).alloc (Nat.le_refl _) (.cells #[.int .i64 Sm.e, .int .i64 Sm.n, .bool Sm.has, .int .i64 Sm.lo.k, .int .i64 Sm.lo.n, .string Sm.lo.s, .int .i64 Sm.hi.k, .int .i64 Sm.hi.n, .string Sm.hi.s] 33)
  replace HU2 := Lib.hid (HU2.out.below hbx (Nat.le_refl _)); replace RgJ := Lib.hid (row_keep hbx RgJ.out); replace RgZ := Lib.hid (row_keep hbx RgZ.out); replace RD := Lib.hid (row_keep hbx RD.out); replace Hbw := Lib.hid (Hbw.out.trans (hbx.mono Hbw.out.size))
  have RgM := Lib.hid (heap_alloc_new w10 (.cells #[.int .i64 Sm.e, .int .i64 Sm.n, .bool Sm.has, .int .i64 Sm.lo.k, .int .i64 Sm.lo.n, .string Sm.lo.s, .int .i64 Sm.hi.k, .int .i64 Sm.hi.n, .string Sm.hi.s] 33))
  clear hbx
  generalize w10.alloc (.cells #[.int .i64 Sm.e, .int .i64 Sm.n, .bool Sm.has, .int .i64 Sm.lo.k, .int .i64 Sm.lo.n, .string Sm.lo.s, .int .i64 Sm.hi.k, .int .i64 Sm.hi.n, .string Sm.hi.s] 33) = w11 at *
  generalize w10.heap.size = gM at *
  have cZ := rowc RgZ.out; have cM := rowc RgM.out; have cD := rowc RD.out
  have he : ∀ wx, (binOp .neq 33 (.agg (stA Sm)) (.agg (stA Sm))).run Tryd.prog wx = .ok (.bool false) wx := fun wx => by rw [neq_st, stEq_self]; rfl
  unfold stA at he
  go_wp2_with fail
  refine (HMY.out _ Hbw.out).mono ?_; rintro e w12 ⟨hm, hbx⟩
  replace HU2 := Lib.hid (HU2.out.below hbx (Nat.le_refl _)); replace RgJ := Lib.hid (row_keep hbx RgJ.out); replace RD := Lib.hid (row_keep hbx RD.out); replace Hbw := Lib.hid (Hbw.out.trans (hbx.mono Hbw.out.size))
  clear hbx cZ cM cD he RgZ RgM
  rcases hm with ⟨m, T9, p9, rfl⟩ | ⟨rfl, hk1, hk2, hk3⟩
  · go_wp2_with fail
    go_ret
    exact ⟨rfl, Hbw.out⟩
  rw [HSm.out] at hk3
  have HSt := fun hmp => sb_stands HOc.out Z5.out s v Hv.out hk2 hk3 hmp
  rw [← HSm.out] at HSt
  generalize mayP Sm s v = mp at *
  have HST := Lib.hid HSt
  obtain ⟨q1, q2, q3, hq, i1, i2, i3⟩ := HU2.out
  have hlen : n3 = cx.vals.length := by
    unfold colA at hq
    simp only [Value.agg.injEq, Array.mk.injEq, List.cons.injEq, true_and, and_true] at hq
    obtain ⟨-, -, rfl⟩ := hq
    exact isVals_len i3
  have hIV : IsVals w12 (.slice d3 n3 c3) cx.vals := by
    unfold colA at hq
    simp only [Value.agg.injEq, Array.mk.injEq, List.cons.injEq, true_and, and_true] at hq
    obtain ⟨-, -, rfl⟩ := hq
    exact i3
  have HLen := Lib.hid hlen; have HIV := Lib.hid hIV
  have hoX := fun x hx => HOc.out.vals.2 x hx
  have HoX := Lib.hid hoX
  have hnm : n3 ≤ 9223372036854775807 := by have := HOc.out.vals.1; unfold maxLen at this; omega
  clear hq i1 i2 i3 q1 q2 q3 hlen hIV hk1 hk2 hk3 HSt hoX
  go_wp2_with fail
  go_loopw [22, 23] (fun sm i wr => ∃ (k : Nat) (b' : Bool), k ≤ n3 ∧ i = .int .i64 (k : Nat) ∧ sm = .bool b' ∧ Hid (mp = false → b' = false) ∧ Below w.heap.size w wr ∧ wr.heap[gJ]? = some (.cells #[.int .i64 cx.id, .slice d1 n1 c1, .slice d2 n2 c2, .slice d3 n3 c3] 27 (0, 0)) ∧ wr.heap[w.heap.size + 1 + 1 + 1]? = some (.cells #[.int .i64 v.k, .int .i64 v.n, .string v.s] 29 (0, 0)) ∧ IsVals wr (.slice d3 n3 c3) cx.vals) (fun _ i _ => n3 - (intOf i).toNat)
  case atStart => exact ⟨0, false, Nat.zero_le _, rfl, rfl, Lib.hid (fun _ => rfl), Hbw.out, RgJ.out, RD.out, HIV.out⟩
  case round =>
    obtain ⟨k, b', hk, rfl, rfl, HMp, hbr, rJ, rD, hiv⟩ := hrel
    clear RgJ RD HIV Hbw HU2
    have RgJ := Lib.hid rJ; have RD := Lib.hid rD; have HIV := Lib.hid hiv; have Hbw := Lib.hid hbr
    clear rJ rD hiv hbr
    have cJ := rowc RgJ.out; have cD := rowc RD.out
    by_cases hlt : k < n3
    · have hkl : k < cx.vals.length := by have := HLen.out; omega
      obtain ⟨b0, off, rfl, -, hlt0, hcv⟩ := HIV.out.at (by omega)
      obtain ⟨v1, v2, v3⟩ := hcv k cx.vals[k] (List.getElem?_eq_getElem hkl)
      have hxo := HoX.out cx.vals[k] (List.getElem_mem hkl)
      have hst := fun h => HST.out h cx.vals[k] (List.getElem_mem hkl)
      have HB2 := fun w1 => (stands_both cx.vals[k] v hxo Hv.out s).2 w1
      generalize cx.vals[k] = x at *
      unfold valA at HB2
      generalize (standsO s (x.less v) (v.less x)).getD false = st at *
      generalize (standsO s (x.less v) (v.less x)).isSome = kn at *
      have HSB := Lib.hid HB2; have Hst := Lib.hid hst; have Hlt := Lib.hid hlt
      clear HB2 hst hxo hcv hkl
      have v1d : wr.drew.cell? ⟨b0, off + k * 3, none⟩ = _ := v1
      have v2d : wr.drew.cell? ⟨b0, off + k * 3 + 1, none⟩ = _ := v2
      have v3d : wr.drew.cell? ⟨b0, off + k * 3 + 2, none⟩ = _ := v3
      have hk0I : (0 : Int) ≤ (k : Int) := by omega
      have hkI : (k : Int) < (n3 : Int) := by omega
      go_upto_region 20 with fail
      have HB := Lib.hid (Below.refl wr.heap.size wr)
      go_region_held3 (fun w' => (∀ j, w'.cell? ⟨gJ, j, none⟩ = (#[.int .i64 cx.id, .slice d1 n1 c1, .slice d2 n2 c2, .slice (some ⟨b0, off, none⟩) n3 c3] : Array Value)[j]?) ∧ (∀ j, w'.cell? ⟨w.heap.size + 1 + 1 + 1, j, none⟩ = (#[.int .i64 v.k, .int .i64 v.n, .string v.s] : Array Value)[j]?) ∧ w'.cell? ⟨b0, off + k * 3, none⟩ = some (.int .i64 x.k) ∧ w'.cell? ⟨b0, off + k * 3 + 1, none⟩ = some (.int .i64 x.n) ∧ w'.cell? ⟨b0, off + k * 3 + 2, none⟩ = some (.string x.s))
        (first | (with_reducible exact ⟨rowc RgJ.out, rowc RD.out, v1, v2, v3⟩) | (with_reducible exact ⟨rowc_drew RgJ.out, rowc_drew RD.out, v1d, v2d, v3d⟩))
        (first
        | (go_at_call 15; (with_reducible refine (HSB.out _).mono ?_); rintro e w9 ⟨rfl, hb9⟩; (first | (with_reducible have hbs := drew_first hb9) | (have hbs := hb9)); replace RgJ := Lib.hid (row_keep hbs RgJ.out); replace RD := Lib.hid (row_keep hbs RD.out); replace HIV := Lib.hid (HIV.out.below hbs (Nat.le_refl _)); replace v1 := (hbs.cell (p := ⟨b0, off + k * 3, none⟩) hlt0).trans v1; replace v2 := (hbs.cell (p := ⟨b0, off + k * 3 + 1, none⟩) hlt0).trans v2; replace v3 := (hbs.cell (p := ⟨b0, off + k * 3 + 2, none⟩) hlt0).trans v3; replace Hbw := Lib.hid (Hbw.out.trans (hbs.mono Hbw.out.size)); clear hb9 hbs))
      clear v1 v2 v3 v1d v2d v3d cJ cD
      cases b' with
      | true =>
        go_wp2_with fail
        go_roundw
        case rel => exact ⟨k + 1, true, Hlt.out, by go_num, rfl, HMp, Hbw.out, RgJ.out, RD.out, HIV.out⟩
        case measure => have := Hlt.out; simp [intOf]; omega
      | false =>
        go_wp2_with fail
        go_roundw
        case rel => exact ⟨k + 1, st, Hlt.out, by go_num, rfl, Lib.hid (fun h => Hst.out h), Hbw.out, RgJ.out, RD.out, HIV.out⟩
        case measure => have := Hlt.out; simp [intOf]; omega
    · obtain rfl : k = n3 := by omega
      cases mp with
      | true =>
        go_wp2_with fail
        go_ret
        exact ⟨rfl, Hbw.out⟩
      | false =>
        have hb0 := HMp.out rfl
        subst hb0
        go_wp2_with fail
        go_ret
        exact ⟨rfl, Hbw.out⟩
theorem statsBounds_law {w : World} (vf : Value) (f : Lf) (hf : IsLf w vf f) (fo : f.Ok) (va : Value) (a : Col) (ha : IsCol w va a) (oa : a.Ok) (ra : a.Reach) (vb : Value) (b : Col) (hb : IsCol w vb b) (ob : b.Ok) (rb : b.Reach) (s : ByteArray) (hs2 : s.size ≤ maxLen) (v : Val) (hv : v.Ok) (hL : laidMetH Tryd.prog Rows.statsBoundsRow.laid w) :
    Calls Tryd.prog 3 #[vf, va, vb, .string s, .agg (valA v)] w fun e w' => e = .returned (.bool true) ∧ Below w.heap.size w w' := by
  obtain ⟨adr, hE⟩ := errsAt_of_laid2 [1, 2, 3, 4] rfl (by intro k hk; simp only [List.mem_cons, List.not_mem_nil, or_false] at hk; rcases hk with rfl | rfl | rfl | rfl <;> exact ⟨by kernel_rfl, by kernel_rfl⟩) hL
  exact sb_main f a b s v vf va vb w adr hE hf ha hb fo oa ob ra rb hs2 hv
end Go.Proofs.YtdfbfhgjpihkiaaDoor
