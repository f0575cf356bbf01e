/- The walk of the statement EncOrder. -/
import Derived.Test.YtddefnnimbjnaaaDoorEncL1
import Derived.Test.YtddefnnimbjnaaaDoorIsVal
namespace Go.Proofs.YtddefnnimbjnaaaDoor
set_option linter.unusedVariables false
open Go Go.RowKit Go.ChangeShapes

/-- the cells of three values -/
def Nine (p : Nat) (a b c : Val) (w' : World) : Prop := Six p (p + 1) a b w' ∧
  w'.cell? ⟨p + 1 + 1, 0, none⟩ = some (.int .i64 c.k) ∧ w'.cell? ⟨p + 1 + 1, 1, none⟩ = some (.int .i64 c.n) ∧ w'.cell? ⟨p + 1 + 1, 2, none⟩ = some (.string c.s)
theorem Nine.below {p : Nat} {a b c : Val} {w w' : World} (h : Nine p a b c w) (hb : Below w.heap.size w w') : Nine p a b c w' := by
  obtain ⟨h1, h4, h5, h6⟩ := h
  have t : ∀ (b o : Nat) (x : Value), w.cell? ⟨b, o, none⟩ = some x → w'.cell? ⟨b, o, none⟩ = some x := fun b o x h => (hb.cell (p := ⟨b, o, none⟩) (block_lt_of_cell h)).trans h
  exact ⟨h1.below hb, t _ _ _ h4, t _ _ _ h5, t _ _ _ h6⟩
theorem Nine.fresh (a b c : Val) (w : World) (T : TypeId) : Nine w.heap.size a b c (((w.alloc (.cells (valA a) T)).alloc (.cells (valA b) T)).alloc (.cells (valA c) T)) := by
  have h := (Six.fresh a b w T).below (w' := ((w.alloc (.cells (valA a) T)).alloc (.cells (valA b) T)).alloc (.cells (valA c) T)) ((Below.refl _ _).alloc (Nat.le_refl _) _)
  have e2 : ((w.alloc (.cells (valA a) T)).alloc (.cells (valA b) T)).heap.size = w.heap.size + 1 + 1 := by simp
  refine ⟨h, ?_, ?_, ?_⟩
  · rw [← e2, World.cell?_alloc_at _ _ _ _ rfl]; rfl
  · rw [← e2, World.cell?_alloc_at _ _ _ _ rfl]; rfl
  · rw [← e2, World.cell?_alloc_at _ _ _ _ rfl]; rfl

/-- the array of a value, as the walk spells it -/
theorem less_at (a b : Val) (ha : a.Ok) (hb : b.Ok) (x : Bool) (h : a.less b = x) (w1 : World) : Calls Tryd.prog 20 #[.agg #[.int .i64 a.k, .int .i64 a.n, .string a.s], .agg #[.int .i64 b.k, .int .i64 b.n, .string b.s]] w1 fun e w' => e = .returned (.bool x) ∧ Below w1.heap.size w1 w' := h ▸ less_any a b ha hb w1
theorem isValue_at (kind : Int) (a : Val) (ha : a.Ok) (h : a.Is kind) (w1 : World) : Calls Tryd.prog 22 #[.int .i64 kind, .agg #[.int .i64 a.k, .int .i64 a.n, .string a.s]] w1 fun e w' => e = .returned (.bool true) ∧ Below w1.heap.size w1 w' :=
  isValue_yes kind a ha w1 ⟨h.k, h.text, h.num, h.bool, h.int⟩ h.lo h.hi
theorem isValue_off (kind : Int) (a : Val) (ha : a.Ok) (h : ¬ a.Is kind) (w1 : World) : Calls Tryd.prog 22 #[.int .i64 kind, .agg #[.int .i64 a.k, .int .i64 a.n, .string a.s]] w1 fun e w' => e = .returned (.bool false) ∧ Below w1.heap.size w1 w' := by
  by_cases hr : kind < 1 ∨ 5 < kind
  · exact isValue_out kind a ha w1 hr
  · exact isValue_no kind a ha w1 (fun h2 => h (h2.is (by omega) (by omega))) (by omega) (by omega)

set_option maxRecDepth 100000 in
set_option maxHeartbeats 4000000 in
theorem encOrder_all (a b c : Val) (ha : a.Ok) (hb : b.Ok) (hc : c.Ok) (ia : a.Is a.k) (ib : b.Is a.k) (ic : c.Is a.k) (w : World) :
    Calls Tryd.prog 5 #[.agg (valA a), .agg (valA b), .agg (valA c)] w fun e w' => e = .returned (.bool true) ∧ Below w.heap.size w w' := by
  have V1 := Lib.hid (isValue_at a.k a ha ia); have V2 := Lib.hid (isValue_at a.k b hb ib); have V3 := Lib.hid (isValue_at a.k c hc ic)
  have hbw : Below w.heap.size w (((w.alloc (.cells (valA a) 33)).alloc (.cells (valA b) 33)).alloc (.cells (valA c) 33)) := (((Below.refl _ _).alloc (Nat.le_refl _) _).alloc (by simp) _).alloc (by simp; omega) _
  have h6 := Nine.fresh a b c w 33
  have HH : Hid ((((w.alloc (.cells (valA a) 33)).alloc (.cells (valA b) 33)).alloc (.cells (valA c) 33)) = (((w.alloc (.cells #[.int .i64 a.k, .int .i64 a.n, .string a.s] 33)).alloc (.cells #[.int .i64 b.k, .int .i64 b.n, .string b.s] 33)).alloc (.cells #[.int .i64 c.k, .int .i64 c.n, .string c.s] 33))) := Lib.hid rfl
  rw [HH.out] at hbw h6
  have Hbw := Lib.hid hbw; have H6 := Lib.hid h6
  clear hbw h6 HH
  have Hcase := Lib.hid (show (a.less b = true ∧ b.less a = false) ∨ (a.less b = false ∧ b.less a = true) ∨ (a.less b = false ∧ b.less a = false ∧ a = b) by
    cases h1 : a.less b
    · cases h2 : b.less a
      · exact .inr (.inr ⟨rfl, rfl, Val.less_total ha hb ia ib h1 h2⟩)
      · exact .inr (.inl ⟨rfl, rfl⟩)
    · exact .inl ⟨rfl, Val.less_asymm ia ib h1⟩)
  have HT := Lib.hid (show a.less b = true → b.less c = true → a.less c = true from fun h1 h2 => Val.less_trans ia ib ic h1 h2)
  clear ia ib ic
  unfold valA
  go_enter Tryd.func5, Tryd.ntmps5
  go_wp2_with fail
  refine (four_any _).mono ?_; rintro e w1 ⟨rfl, hb1⟩
  have n1 := H6.out.below hb1
  have hb1 : Below w.heap.size w w1 := Hbw.out.trans (hb1.mono Hbw.out.size)
  have N1 := Lib.hid n1
  obtain ⟨⟨a0, a1, a2, b0, b1, b2⟩, c0, c1, c2⟩ := n1
  go_wp2_with fail
  refine (V1.out _).mono ?_; rintro e w2 ⟨rfl, hb2⟩
  clear a0 a1 a2 b0 b1 b2 c0 c1 c2
  have n1 := N1.out.below hb2
  have hb2 := below_trans hb1 hb2
  have N2 := Lib.hid n1
  obtain ⟨⟨a0, a1, a2, b0, b1, b2⟩, c0, c1, c2⟩ := n1
  go_wp2_with fail
  refine (V2.out _).mono ?_; rintro e w3 ⟨rfl, hb3⟩
  clear a0 a1 a2 b0 b1 b2 c0 c1 c2
  have n1 := N2.out.below hb3
  have hb3 := below_trans hb2 hb3
  have N3 := Lib.hid n1
  obtain ⟨⟨a0, a1, a2, b0, b1, b2⟩, c0, c1, c2⟩ := n1
  go_wp2_with fail
  refine (V3.out _).mono ?_; rintro e w4 ⟨rfl, hb4⟩
  clear a0 a1 a2 b0 b1 b2 c0 c1 c2
  have n1 := N3.out.below hb4
  have hb4 := below_trans hb3 hb4
  have N4 := Lib.hid n1
  obtain ⟨⟨a0, a1, a2, b0, b1, b2⟩, c0, c1, c2⟩ := n1
  go_wp2_with fail
  rcases Hcase.out with ⟨x1, x2⟩ | ⟨x1, x2⟩ | ⟨x1, x2, x3⟩
  focus
    have L1 := Lib.hid (less_at a b ha hb _ x1); have L2 := Lib.hid (less_at b a hb ha _ x2)
    have hne : ¬ (a.k = b.k ∧ a.n = b.n ∧ a.s.toList = b.s.toList) := by
      rintro ⟨e1, e2, e3⟩
      have e4 := toList_inj e3
      have : a = b := by cases a; cases b; simp only at e1 e2 e4; subst e1 e2 e4; rfl
      rw [this, Val.less_irrefl] at x1; cases x1
    refine (L1.out _).mono ?_; rintro e w5 ⟨rfl, hb5⟩
    clear a0 a1 a2 b0 b1 b2 c0 c1 c2
    have n1 := N4.out.below hb5
    have hb5 := below_trans hb4 hb5
    have N5 := Lib.hid n1
    obtain ⟨⟨a0, a1, a2, b0, b1, b2⟩, c0, c1, c2⟩ := n1
    go_wp2_with fail
    refine (L2.out _).mono ?_; rintro e w6 ⟨rfl, hb6⟩
    clear a0 a1 a2 b0 b1 b2 c0 c1 c2
    have n1 := N5.out.below hb6
    have hb6 := below_trans hb5 hb6
    have N6 := Lib.hid n1
    obtain ⟨⟨a0, a1, a2, b0, b1, b2⟩, c0, c1, c2⟩ := n1
    have HX := Lib.hid x1
    clear x1 x2
    cases x3 : b.less c
    · have L3 := Lib.hid (less_at b c hb hc _ x3)
      clear x3
      go_wp2_with fail
      all_goals first
        | (exfalso; exact hne ⟨‹_›, ‹_›, ‹_›⟩)
        | (refine (L3.out _).mono ?_; rintro e w7 ⟨rfl, hb7⟩
           go_wp2_with fail
           go_ret
           exact ⟨rfl, below_trans hb6 hb7⟩)
    · have L3 := Lib.hid (less_at b c hb hc _ x3)
      have L4 := less_at a c ha hc _ (HT.out HX.out x3)
      have HL4 := Lib.hid L4
      clear x3 L4
      go_wp2_with fail
      all_goals first
        | (exfalso; exact hne ⟨‹_›, ‹_›, ‹_›⟩)
        | (refine (L3.out _).mono ?_; rintro e w7 ⟨rfl, hb7⟩
           clear a0 a1 a2 b0 b1 b2 c0 c1 c2
           have n1 := N6.out.below hb7
           have hb7 := below_trans hb6 hb7
           obtain ⟨⟨a0, a1, a2, b0, b1, b2⟩, c0, c1, c2⟩ := n1
           go_wp2_with fail
           have L4 := HL4.out
           first
           | (with_reducible refine (L4 _).mono ?_)
           | (rw [show a.k = b.k from ‹_›] at L4; (with_reducible refine (L4 _).mono ?_))
           | (rw [show a.k = b.k from ‹_›, show a.n = b.n from ‹_›] at L4; (with_reducible refine (L4 _).mono ?_))
           rintro e w8 ⟨rfl, hb8⟩
           go_wp2_with fail
           go_ret
           exact ⟨rfl, below_trans hb7 hb8⟩)
  focus
    have L1 := Lib.hid (less_at a b ha hb _ x1); have L2 := Lib.hid (less_at b a hb ha _ x2)
    have hne : ¬ (a.k = b.k ∧ a.n = b.n ∧ a.s.toList = b.s.toList) := by
      rintro ⟨e1, e2, e3⟩
      have e4 := toList_inj e3
      have : a = b := by cases a; cases b; simp only at e1 e2 e4; subst e1 e2 e4; rfl
      rw [this, Val.less_irrefl] at x2; cases x2
    refine (L1.out _).mono ?_; rintro e w5 ⟨rfl, hb5⟩
    clear a0 a1 a2 b0 b1 b2 c0 c1 c2
    have n1 := N4.out.below hb5
    have hb5 := below_trans hb4 hb5
    have N5 := Lib.hid n1
    obtain ⟨⟨a0, a1, a2, b0, b1, b2⟩, c0, c1, c2⟩ := n1
    go_wp2_with fail
    refine (L2.out _).mono ?_; rintro e w6 ⟨rfl, hb6⟩
    clear a0 a1 a2 b0 b1 b2 c0 c1 c2
    have n1 := N5.out.below hb6
    have hb6 := below_trans hb5 hb6
    have N6 := Lib.hid n1
    obtain ⟨⟨a0, a1, a2, b0, b1, b2⟩, c0, c1, c2⟩ := n1
    clear x1 x2
    have L3 := Lib.hid (less_at b c hb hc _ rfl)
    go_wp2_with fail
    all_goals first
      | (exfalso; exact hne ⟨‹_›, ‹_›, ‹_›⟩)
      | (refine (L3.out _).mono ?_; rintro e w7 ⟨rfl, hb7⟩
         go_wp2_with fail
         go_ret
         exact ⟨rfl, below_trans hb6 hb7⟩)
  focus
    subst x3
    have L1 := Lib.hid (less_at a a ha hb _ x1)
    refine (L1.out _).mono ?_; rintro e w5 ⟨rfl, hb5⟩
    clear a0 a1 a2 b0 b1 b2 c0 c1 c2
    have n1 := N4.out.below hb5
    have hb5 := below_trans hb4 hb5
    have N5 := Lib.hid n1
    obtain ⟨⟨a0, a1, a2, b0, b1, b2⟩, c0, c1, c2⟩ := n1
    go_wp2_with fail
    refine (L1.out _).mono ?_; rintro e w6 ⟨rfl, hb6⟩
    clear a0 a1 a2 b0 b1 b2 c0 c1 c2
    have n1 := N5.out.below hb6
    have hb6 := below_trans hb5 hb6
    have N6 := Lib.hid n1
    obtain ⟨⟨a0, a1, a2, b0, b1, b2⟩, c0, c1, c2⟩ := n1
    clear x1 x2
    have L3 := Lib.hid (less_at a c ha hc _ rfl)
    go_wp2_with fail
    refine (L3.out _).mono ?_; rintro e w7 ⟨rfl, hb7⟩
    go_wp2_with fail
    go_ret
    exact ⟨rfl, below_trans hb6 hb7⟩

set_option maxRecDepth 100000 in
set_option maxHeartbeats 2000000 in
theorem encOrder_off1 (a b c : Val) (ha : a.Ok) (hb : b.Ok) (hc : c.Ok) (ia : ¬ a.Is a.k) (w : World) :
    Calls Tryd.prog 5 #[.agg (valA a), .agg (valA b), .agg (valA c)] w fun e w' => e = .returned (.bool true) ∧ Below w.heap.size w w' := by
  have V1 := Lib.hid (isValue_off a.k a ha ia)
  have hbw : Below w.heap.size w (((w.alloc (.cells (valA a) 33)).alloc (.cells (valA b) 33)).alloc (.cells (valA c) 33)) := (((Below.refl _ _).alloc (Nat.le_refl _) _).alloc (by simp) _).alloc (by simp; omega) _
  have h6 := Nine.fresh a b c w 33
  have HH : Hid ((((w.alloc (.cells (valA a) 33)).alloc (.cells (valA b) 33)).alloc (.cells (valA c) 33)) = (((w.alloc (.cells #[.int .i64 a.k, .int .i64 a.n, .string a.s] 33)).alloc (.cells #[.int .i64 b.k, .int .i64 b.n, .string b.s] 33)).alloc (.cells #[.int .i64 c.k, .int .i64 c.n, .string c.s] 33))) := Lib.hid rfl
  rw [HH.out] at hbw h6
  have Hbw := Lib.hid hbw; have H6 := Lib.hid h6
  clear hbw h6 HH
  unfold valA
  go_enter Tryd.func5, Tryd.ntmps5
  go_wp2_with fail
  refine (four_any _).mono ?_; rintro e w1 ⟨rfl, hb1⟩
  have n1 := H6.out.below hb1
  have hb1 : Below w.heap.size w w1 := Hbw.out.trans (hb1.mono Hbw.out.size)
  have N1 := Lib.hid n1
  obtain ⟨⟨a0, a1, a2, b0, b1, b2⟩, c0, c1, c2⟩ := n1
  go_wp2_with fail
  refine (V1.out _).mono ?_; rintro e w2 ⟨rfl, hb2⟩
  go_wp2_with fail
  go_ret
  exact ⟨rfl, below_trans hb1 hb2⟩

set_option maxRecDepth 100000 in
set_option maxHeartbeats 2000000 in
theorem encOrder_off2 (a b c : Val) (ha : a.Ok) (hb : b.Ok) (hc : c.Ok) (ia : a.Is a.k) (ib : ¬ b.Is a.k) (w : World) :
    Calls Tryd.prog 5 #[.agg (valA a), .agg (valA b), .agg (valA c)] w fun e w' => e = .returned (.bool true) ∧ Below w.heap.size w w' := by
  have V1 := Lib.hid (isValue_at a.k a ha ia)
  have V2 := Lib.hid (isValue_off a.k b hb ib)
  have hbw : Below w.heap.size w (((w.alloc (.cells (valA a) 33)).alloc (.cells (valA b) 33)).alloc (.cells (valA c) 33)) := (((Below.refl _ _).alloc (Nat.le_refl _) _).alloc (by simp) _).alloc (by simp; omega) _
  have h6 := Nine.fresh a b c w 33
  have HH : Hid ((((w.alloc (.cells (valA a) 33)).alloc (.cells (valA b) 33)).alloc (.cells (valA c) 33)) = (((w.alloc (.cells #[.int .i64 a.k, .int .i64 a.n, .string a.s] 33)).alloc (.cells #[.int .i64 b.k, .int .i64 b.n, .string b.s] 33)).alloc (.cells #[.int .i64 c.k, .int .i64 c.n, .string c.s] 33))) := Lib.hid rfl
  rw [HH.out] at hbw h6
  have Hbw := Lib.hid hbw; have H6 := Lib.hid h6
  clear hbw h6 HH
  unfold valA
  go_enter Tryd.func5, Tryd.ntmps5
  go_wp2_with fail
  refine (four_any _).mono ?_; rintro e w1 ⟨rfl, hb1⟩
  have n1 := H6.out.below hb1
  have hb1 : Below w.heap.size w w1 := Hbw.out.trans (hb1.mono Hbw.out.size)
  have N1 := Lib.hid n1
  obtain ⟨⟨a0, a1, a2, b0, b1, b2⟩, c0, c1, c2⟩ := n1
  go_wp2_with fail
  refine (V1.out _).mono ?_; rintro e w2 ⟨rfl, hb2⟩
  clear a0 a1 a2 b0 b1 b2 c0 c1 c2
  have n1 := N1.out.below hb2
  have hb2 := below_trans hb1 hb2
  have N2 := Lib.hid n1
  obtain ⟨⟨a0, a1, a2, b0, b1, b2⟩, c0, c1, c2⟩ := n1
  go_wp2_with fail
  refine (V2.out _).mono ?_; rintro e w3 ⟨rfl, hb3⟩
  go_wp2_with fail
  go_ret
  exact ⟨rfl, below_trans hb2 hb3⟩

set_option maxRecDepth 100000 in
set_option maxHeartbeats 2000000 in
theorem encOrder_off3 (a b c : Val) (ha : a.Ok) (hb : b.Ok) (hc : c.Ok) (ia : a.Is a.k) (ib : b.Is a.k) (ic : ¬ c.Is a.k) (w : World) :
    Calls Tryd.prog 5 #[.agg (valA a), .agg (valA b), .agg (valA c)] w fun e w' => e = .returned (.bool true) ∧ Below w.heap.size w w' := by
  have V1 := Lib.hid (isValue_at a.k a ha ia)
  have V2 := Lib.hid (isValue_at a.k b hb ib)
  have V3 := Lib.hid (isValue_off a.k c hc ic)
  have hbw : Below w.heap.size w (((w.alloc (.cells (valA a) 33)).alloc (.cells (valA b) 33)).alloc (.cells (valA c) 33)) := (((Below.refl _ _).alloc (Nat.le_refl _) _).alloc (by simp) _).alloc (by simp; omega) _
  have h6 := Nine.fresh a b c w 33
  have HH : Hid ((((w.alloc (.cells (valA a) 33)).alloc (.cells (valA b) 33)).alloc (.cells (valA c) 33)) = (((w.alloc (.cells #[.int .i64 a.k, .int .i64 a.n, .string a.s] 33)).alloc (.cells #[.int .i64 b.k, .int .i64 b.n, .string b.s] 33)).alloc (.cells #[.int .i64 c.k, .int .i64 c.n, .string c.s] 33))) := Lib.hid rfl
  rw [HH.out] at hbw h6
  have Hbw := Lib.hid hbw; have H6 := Lib.hid h6
  clear hbw h6 HH
  unfold valA
  go_enter Tryd.func5, Tryd.ntmps5
  go_wp2_with fail
  refine (four_any _).mono ?_; rintro e w1 ⟨rfl, hb1⟩
  have n1 := H6.out.below hb1
  have hb1 : Below w.heap.size w w1 := Hbw.out.trans (hb1.mono Hbw.out.size)
  have N1 := Lib.hid n1
  obtain ⟨⟨a0, a1, a2, b0, b1, b2⟩, c0, c1, c2⟩ := n1
  go_wp2_with fail
  refine (V1.out _).mono ?_; rintro e w2 ⟨rfl, hb2⟩
  clear a0 a1 a2 b0 b1 b2 c0 c1 c2
  have n1 := N1.out.below hb2
  have hb2 := below_trans hb1 hb2
  have N2 := Lib.hid n1
  obtain ⟨⟨a0, a1, a2, b0, b1, b2⟩, c0, c1, c2⟩ := n1
  go_wp2_with fail
  refine (V2.out _).mono ?_; rintro e w3 ⟨rfl, hb3⟩
  clear a0 a1 a2 b0 b1 b2 c0 c1 c2
  have n1 := N2.out.below hb3
  have hb3 := below_trans hb2 hb3
  have N3 := Lib.hid n1
  obtain ⟨⟨a0, a1, a2, b0, b1, b2⟩, c0, c1, c2⟩ := n1
  go_wp2_with fail
  refine (V3.out _).mono ?_; rintro e w4 ⟨rfl, hb4⟩
  go_wp2_with fail
  go_ret
  exact ⟨rfl, below_trans hb3 hb4⟩

theorem encOrder_law (a : Val) (ha : a.Ok) (b : Val) (hb : b.Ok) (c : Val) (hc : c.Ok) (w : World) (hL : laidMetH Tryd.prog Rows.encOrderRow.laid w) :
    Calls Tryd.prog 5 #[.agg (valA a), .agg (valA b), .agg (valA c)] w fun e w' => e = .returned (.bool true) ∧ Below w.heap.size w w' := by
  by_cases ia : a.Is a.k
  · by_cases ib : b.Is a.k
    · by_cases ic : c.Is a.k
      · exact encOrder_all a b c ha hb hc ia ib ic w
      · exact encOrder_off3 a b c ha hb hc ia ib ic w
    · exact encOrder_off2 a b c ha hb hc ia ib w
  · exact encOrder_off1 a b c ha hb hc ia w
end Go.Proofs.YtddefnnimbjnaaaDoor
