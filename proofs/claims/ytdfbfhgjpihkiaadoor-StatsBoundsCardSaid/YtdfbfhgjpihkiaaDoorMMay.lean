/- Merged texts: May1, May2, May3. -/
import Derived.Test.YtdfbfhgjpihkiaaDoorMHow
import Derived.Test.YtdfbfhgjpihkiaaDoorMSt
import Derived.Test.YtdfbfhgjpihkiaaDoorMEnc

/- The walk of the document's MayOf. -/
namespace Go.Proofs.YtdfbfhgjpihkiaaDoor
set_option linter.unusedVariables false
open Go Go.RowKit Go.ChangeShapes

/-- the document's answer -/
def mayB (a : St) (s : ByteArray) (v : Val) : Bool :=
  a.has && (if s = ⟨#[61]⟩ then !(v.less a.lo) && !(a.hi.less v) else ((standsO s (a.lo.less v) (v.less a.lo)).getD false || (standsO s (a.hi.less v) (v.less a.hi)).getD false))

end Go.Proofs.YtdfbfhgjpihkiaaDoor

/- The walk of stats.May. -/
namespace Go.Proofs.YtdfbfhgjpihkiaaDoor
set_option linter.unusedVariables false
open Go Go.RowKit Go.ChangeShapes

set_option maxRecDepth 100000 in
set_option maxHeartbeats 4000000 in
theorem may_how (a : St) (ha : a.Ok) (s : ByteArray) (v : Val) (hv : v.Ok) (w : World) (adr : Nat → Addr) (hE : ErrsAt w adr [1, 2, 4]) (h : standsO s (a.lo.less v) (v.less a.lo) = none) :
    Calls Tryd.prog 14 #[.agg (stA a), .string s, .agg (valA v)] w fun e w' => e = .returned (.tuple #[.bool false, .iface 167 (.pointer (some (adr 1)))]) ∧ Below w.heap.size w w' := by
  have H1 := (stands_both a.lo v ha.lo hv s).1
  rw [h] at H1
  have H1 := Lib.hid H1
  have e1 := hE.cell 1 (by decide)
  unfold gErr at e1
  have hg := block_lt_of_cell e1
  simp only at hg
  clear ha hv hE h
  obtain ⟨ae, an, ah, al, aH⟩ := a
  simp only at H1 ⊢
  unfold valA at H1
  unfold stA valA
  go_enter Tryd.func14, Tryd.ntmps14
  go_wp2_with fail
  refine (H1.out _).mono ?_; rintro e w1 ⟨rfl, hb1⟩
  obtain ⟨rA, rB, hbw, hz⟩ := rows2 hb1
  have e11 := (hbw.cell hg).trans e1
  clear hb1 rA rB e1
  go_wp2_with fail
  go_quiet (fail)
  go_wp2_with fail
  go_ret2
  exact ⟨rfl, below_drewN hbw _⟩

/-- one value in a slice of its own -/
theorem one_vals {w w' : World} {v : Val} {t : TypeId} (hb : Below (w.alloc (.cells #[.int .i64 v.k, .int .i64 v.n, .string v.s] t)).heap.size (w.alloc (.cells #[.int .i64 v.k, .int .i64 v.n, .string v.s] t)) w') : IsVals w' (.slice (some ⟨w.heap.size, 0, none⟩) 1 1) [v] := by
  obtain ⟨r, _, hl⟩ := rows1 hb
  refine .inr ⟨w.heap.size, 0, 1, rfl, hl, fun j x hj => ?_⟩
  match j, hj with
  | 0, hj =>
    simp at hj; subst hj
    exact ⟨by rw [rowc r]; rfl, by rw [rowc r]; rfl, by rw [rowc r]; rfl⟩
  | j + 1, hj => simp at hj

set_option maxRecDepth 100000 in
set_option maxHeartbeats 4000000 in
theorem may_kind (a : St) (ha : a.Ok) (s : ByteArray) (v : Val) (hv : v.Ok) (w : World) (adr : Nat → Addr) (hE : ErrsAt w adr [1, 2, 4]) (x : Bool) (h : standsO s (a.lo.less v) (v.less a.lo) = some x) (hn : valsErr v.k [v] ≠ .nil) :
    Calls Tryd.prog 14 #[.agg (stA a), .string s, .agg (valA v)] w fun e w' => e = .returned (.tuple #[.bool false, .iface 167 (.pointer (some (adr 4)))]) ∧ Below w.heap.size w w' := by
  have H1 := (stands_both a.lo v ha.lo hv s).1
  rw [h] at H1
  have H1 := Lib.hid H1; have HN := Lib.hid hn; have HE := Lib.hid hE
  have HO := Lib.hid (show ∀ y ∈ [v], y.Ok from by intro y hy; simp at hy; subst hy; exact hv)
  have e1 := hE.cell 4 (by decide)
  unfold gErr at e1
  have hg := block_lt_of_cell e1
  simp only at hg
  clear ha hv hE h hn
  obtain ⟨ae, an, ah, al, aH⟩ := a
  simp only at H1 ⊢
  unfold valA at H1
  unfold stA valA
  go_enter Tryd.func14, Tryd.ntmps14
  go_wp2_with fail
  refine (H1.out _).mono ?_; rintro e w1 ⟨rfl, hb1⟩
  obtain ⟨rA, rB, hbw, hz⟩ := rows2 hb1
  have cA := rowc rA; have cB := rowc rB; have Hbw := Lib.hid hbw
  clear hb1 rA rB hbw
  go_wp2_with fail
  have hbw2 := Hbw.out.alloc Hbw.out.size (.cells #[.int .i64 v.k, .int .i64 v.n, .string v.s] 29)
  refine (check_any v.k _ [v] _ adr ((HE.out.sub (by decide)).below hbw2) (one_vals (Below.refl _ _)) HO.out).mono ?_; rintro e w2 ⟨⟨u, rfl, hu⟩, hb2⟩
  obtain ⟨T, ad, rfl, hT⟩ := hu.some' HN.out
  have hbw3 := hbw2.trans (hb2.mono hbw2.size)
  have e13 := (hbw3.cell hg).trans e1
  clear hb2 hu cA cB e1 hbw2
  rcases hT with rfl | rfl
  all_goals
    go_wp2_with fail
    go_quiet (fail)
    go_wp2_with fail
    go_ret2
    exact ⟨rfl, below_drewN hbw3 _⟩

set_option maxRecDepth 100000 in
set_option maxHeartbeats 4000000 in
theorem may_kind2 (a : St) (ha : a.Ok) (s : ByteArray) (v : Val) (hv : v.Ok) (w : World) (adr : Nat → Addr) (hE : ErrsAt w adr [1, 2, 4]) (x : Bool) (h : standsO s (a.lo.less v) (v.less a.lo) = some x) (hn : valsErr v.k [v] = .nil) (h2 : a.has = true) (h3 : ¬ a.lo.k = v.k) :
    Calls Tryd.prog 14 #[.agg (stA a), .string s, .agg (valA v)] w fun e w' => e = .returned (.tuple #[.bool false, .iface 167 (.pointer (some (adr 4)))]) ∧ Below w.heap.size w w' := by
  have H1 := (stands_both a.lo v ha.lo hv s).1
  rw [h] at H1
  have G1 := Lib.hid H1; clear H1; have HN := Lib.hid hn; have HE := Lib.hid hE
  have HO := Lib.hid (show ∀ y ∈ [v], y.Ok from by intro y hy; simp at hy; subst hy; exact hv)
  have e1 := hE.cell 4 (by decide)
  unfold gErr at e1
  have hg := block_lt_of_cell e1
  simp only at hg
  clear ha hv hE h hn
  obtain ⟨ae, an, ah, al, aH⟩ := a
  simp only at G1 h2 h3 ⊢
  subst h2
  have h3' : (al.k != v.k) = true := by simpa using h3
  clear h3
  unfold valA at G1
  unfold stA valA
  go_enter Tryd.func14, Tryd.ntmps14
  go_wp2_with fail
  refine (G1.out _).mono ?_; rintro e w1 ⟨rfl, hb1⟩
  obtain ⟨rA, rB, hbw, hz⟩ := rows2 hb1
  have cA := rowc rA; have cB := rowc rB; have Hbw := Lib.hid hbw; have RA := Lib.hid rA; have RB := Lib.hid rB
  clear hb1 rA rB hbw
  go_wp2_with fail
  have hbw2 := Hbw.out.alloc Hbw.out.size (.cells #[.int .i64 v.k, .int .i64 v.n, .string v.s] 29)
  refine (check_any v.k _ [v] _ adr ((HE.out.sub (by decide)).below hbw2) (one_vals (Below.refl _ _)) HO.out).mono ?_; rintro e w2 ⟨⟨u, rfl, hu⟩, hb2⟩
  rw [HN.out] at hu
  obtain rfl : u = .nilIface := hu
  have hbw3 := hbw2.trans (hb2.mono hbw2.size)
  have e13 := (hbw3.cell hg).trans e1
  have rA3 := row_keep hb2 ((Lib.alloc_old w1 (.cells #[.int .i64 v.k, .int .i64 v.n, .string v.s] 29) w.heap.size (by omega)).trans RA.out)
  have rB3 := row_keep hb2 ((Lib.alloc_old w1 (.cells #[.int .i64 v.k, .int .i64 v.n, .string v.s] 29) (w.heap.size + 1) (by omega)).trans RB.out)
  clear hb2 cA cB e1 hbw2
  have cA := rowc rA3; have cB := rowc rB3
  clear rA3 rB3
  go_wp2_with fail
  go_quiet (fail)
  go_wp2_with fail
  go_ret2
  exact ⟨rfl, below_drewN hbw3 _⟩
end Go.Proofs.YtdfbfhgjpihkiaaDoor

/- stats.May where all is right. -/
namespace Go.Proofs.YtdfbfhgjpihkiaaDoor
set_option linter.unusedVariables false
open Go Go.RowKit Go.ChangeShapes

/-- the program's answer -/
def mayP (a : St) (s : ByteArray) (v : Val) : Bool :=
  a.has && ((if s = ⟨#[61]⟩ then !(v.less a.lo) && !(a.hi.less v) else (standsO s (a.lo.less v) (v.less a.lo)).getD false) || (standsO s (a.hi.less v) (v.less a.hi)).getD false)

set_option maxRecDepth 100000 in
set_option maxHeartbeats 16000000 in
theorem may_ok (a : St) (ha : a.Ok) (s : ByteArray) (v : Val) (hv : v.Ok) (w : World) (adr : Nat → Addr) (hE : ErrsAt w adr [1, 2, 4]) (hk : (standsO s (a.lo.less v) (v.less a.lo)).isSome = true) (hn : valsErr v.k [v] = .nil) (h2 : a.has = true → a.lo.k = v.k) :
    Calls Tryd.prog 14 #[.agg (stA a), .string s, .agg (valA v)] w fun e w' => e = .returned (.tuple #[.bool (mayP a s v), .nilIface]) ∧ Below w.heap.size w w' := by
  have H1 := (stands_both a.lo v ha.lo hv s).1
  have H2 := (stands_both a.hi v ha.hi hv s).1
  have H3 := fun w1 => less_at v a.lo hv ha.lo _ rfl w1
  have H4 := fun w1 => less_at a.hi v ha.hi hv _ rfl w1
  have HN := Lib.hid hn; have HE := Lib.hid hE
  have HO := Lib.hid (show ∀ y ∈ [v], y.Ok from by intro y hy; simp at hy; subst hy; exact hv)
  have hm : mayP a s v = (a.has && ((if s = ⟨#[61]⟩ then !(v.less a.lo) && !(a.hi.less v) else (standsO s (a.lo.less v) (v.less a.lo)).getD false) || (standsO s (a.hi.less v) (v.less a.hi)).getD false)) := rfl
  rw [hm]
  clear hm ha hv hE hn
  obtain ⟨ae, an, ah, al, aH⟩ := a
  simp only at H1 H2 H3 H4 hk h2 ⊢
  rw [hk] at H1
  clear hk
  generalize (standsO s (al.less v) (v.less al)).getD false = x1 at *
  generalize (standsO s (aH.less v) (v.less aH)).getD false = x2 at *
  generalize (standsO s (aH.less v) (v.less aH)).isSome = k2 at *
  generalize v.less al = y1 at *
  generalize aH.less v = y2 at *
  have G1 := Lib.hid H1; have G2 := Lib.hid H2; have G3 := Lib.hid H3; have G4 := Lib.hid H4
  clear H1 H2 H3 H4
  have h3 : ah = true → (al.k != v.k) = false := fun h => by simp [h2 h]
  clear h2
  unfold valA at G1 G2
  unfold stA valA
  by_cases hs : s = ⟨#[61]⟩
  · rw [if_pos hs]
    subst hs
    cases y1
    · cases ah <;> cases y2 <;> cases x2
      all_goals
        as_aux_lemma =>
        try (have h3' := h3 rfl)
        clear h3
        go_enter Tryd.func14, Tryd.ntmps14
        go_wp2_with fail
        refine (G1.out _).mono ?_; rintro e w1 ⟨rfl, hb1⟩
        obtain ⟨rA, rB, hbw, hz⟩ := rows2 hb1
        have cA := rowc rA; have cB := rowc rB; have Hbw := Lib.hid hbw; have RA := Lib.hid rA; have RB := Lib.hid rB
        clear hb1 rA rB hbw
        go_wp2_with fail
        have hbw2 := Hbw.out.alloc Hbw.out.size (.cells #[.int .i64 v.k, .int .i64 v.n, .string v.s] 29)
        refine (check_any v.k _ [v] _ adr ((HE.out.sub (by decide)).below hbw2) (one_vals (Below.refl _ _)) HO.out).mono ?_; rintro e w2 ⟨⟨u, rfl, hu⟩, hb2⟩
        rw [HN.out] at hu
        obtain rfl : u = .nilIface := hu
        have hbw3 := Lib.hid (hbw2.trans (hb2.mono hbw2.size))
        have rA3 := Lib.hid (row_keep hb2 ((Lib.alloc_old w1 (.cells #[.int .i64 v.k, .int .i64 v.n, .string v.s] 29) w.heap.size (by omega)).trans RA.out))
        have rB3 := Lib.hid (row_keep hb2 ((Lib.alloc_old w1 (.cells #[.int .i64 v.k, .int .i64 v.n, .string v.s] 29) (w.heap.size + 1) (by omega)).trans RB.out))
        clear hb2 cA cB hbw2 RA RB
        have cA := rowc rA3.out; have cB := rowc rB3.out
        go_wp2_with fail
        refine (G2.out _).mono ?_; rintro e w3 ⟨rfl, hb3⟩
        have rA4 := Lib.hid (row_keep hb3 rA3.out); have rB4 := Lib.hid (row_keep hb3 rB3.out); have hbw4 := Lib.hid (hbw3.out.trans (hb3.mono hbw3.out.size))
        clear hb3 cA cB
        have cA := rowc rA4.out; have cB := rowc rB4.out
        go_wp2_with fail
        refine (G3.out _).mono ?_; rintro e w4 ⟨rfl, hb4⟩
        have rA5 := Lib.hid (row_keep hb4 rA4.out); have rB5 := Lib.hid (row_keep hb4 rB4.out); have hbw5 := Lib.hid (hbw4.out.trans (hb4.mono hbw4.out.size))
        clear hb4 cA cB
        have cA := rowc rA5.out; have cB := rowc rB5.out
        go_wp2_with fail
        refine (G4.out _).mono ?_; rintro e w5 ⟨rfl, hb5⟩
        have rA6 := Lib.hid (row_keep hb5 rA5.out); have hbw6 := Lib.hid (hbw5.out.trans (hb5.mono hbw5.out.size))
        clear hb5 cA cB
        have cA := rowc rA6.out
        go_wp2_with fail
        go_ret2
        exact ⟨rfl, hbw6.out⟩
    · cases ah <;> cases x2
      all_goals
        as_aux_lemma =>
        try (have h3' := h3 rfl)
        clear h3
        go_enter Tryd.func14, Tryd.ntmps14
        go_wp2_with fail
        refine (G1.out _).mono ?_; rintro e w1 ⟨rfl, hb1⟩
        obtain ⟨rA, rB, hbw, hz⟩ := rows2 hb1
        have cA := rowc rA; have cB := rowc rB; have Hbw := Lib.hid hbw; have RA := Lib.hid rA; have RB := Lib.hid rB
        clear hb1 rA rB hbw
        go_wp2_with fail
        have hbw2 := Hbw.out.alloc Hbw.out.size (.cells #[.int .i64 v.k, .int .i64 v.n, .string v.s] 29)
        refine (check_any v.k _ [v] _ adr ((HE.out.sub (by decide)).below hbw2) (one_vals (Below.refl _ _)) HO.out).mono ?_; rintro e w2 ⟨⟨u, rfl, hu⟩, hb2⟩
        rw [HN.out] at hu
        obtain rfl : u = .nilIface := hu
        have hbw3 := Lib.hid (hbw2.trans (hb2.mono hbw2.size))
        have rA3 := Lib.hid (row_keep hb2 ((Lib.alloc_old w1 (.cells #[.int .i64 v.k, .int .i64 v.n, .string v.s] 29) w.heap.size (by omega)).trans RA.out))
        have rB3 := Lib.hid (row_keep hb2 ((Lib.alloc_old w1 (.cells #[.int .i64 v.k, .int .i64 v.n, .string v.s] 29) (w.heap.size + 1) (by omega)).trans RB.out))
        clear hb2 cA cB hbw2 RA RB
        have cA := rowc rA3.out; have cB := rowc rB3.out
        go_wp2_with fail
        refine (G2.out _).mono ?_; rintro e w3 ⟨rfl, hb3⟩
        have rA4 := Lib.hid (row_keep hb3 rA3.out); have rB4 := Lib.hid (row_keep hb3 rB3.out); have hbw4 := Lib.hid (hbw3.out.trans (hb3.mono hbw3.out.size))
        clear hb3 cA cB
        have cA := rowc rA4.out; have cB := rowc rB4.out
        go_wp2_with fail
        refine (G3.out _).mono ?_; rintro e w4 ⟨rfl, hb4⟩
        have rA5 := Lib.hid (row_keep hb4 rA4.out); have rB5 := Lib.hid (row_keep hb4 rB4.out); have hbw5 := Lib.hid (hbw4.out.trans (hb4.mono hbw4.out.size))
        clear hb4 cA cB
        have cA := rowc rA5.out; have cB := rowc rB5.out
        go_wp2_with fail
        go_ret2
        exact ⟨rfl, hbw5.out⟩
  · rw [if_neg hs]
    have hs' : (s.toList == [61]) = false := by
      rw [beq_eq_false_iff_ne]
      intro e
      exact hs (toList_inj (by rw [e, ByteArray.toList_eq]))
    clear hs
    cases ah <;> cases x1 <;> cases x2
    all_goals
      as_aux_lemma =>
      try (have h3' := h3 rfl)
      clear h3
      go_enter Tryd.func14, Tryd.ntmps14
      go_wp2_with fail
      refine (G1.out _).mono ?_; rintro e w1 ⟨rfl, hb1⟩
      obtain ⟨rA, rB, hbw, hz⟩ := rows2 hb1
      have cA := rowc rA; have cB := rowc rB; have Hbw := Lib.hid hbw; have RA := Lib.hid rA; have RB := Lib.hid rB
      clear hb1 rA rB hbw
      go_wp2_with fail
      have hbw2 := Hbw.out.alloc Hbw.out.size (.cells #[.int .i64 v.k, .int .i64 v.n, .string v.s] 29)
      refine (check_any v.k _ [v] _ adr ((HE.out.sub (by decide)).below hbw2) (one_vals (Below.refl _ _)) HO.out).mono ?_; rintro e w2 ⟨⟨u, rfl, hu⟩, hb2⟩
      rw [HN.out] at hu
      obtain rfl : u = .nilIface := hu
      have hbw3 := Lib.hid (hbw2.trans (hb2.mono hbw2.size))
      have rA3 := Lib.hid (row_keep hb2 ((Lib.alloc_old w1 (.cells #[.int .i64 v.k, .int .i64 v.n, .string v.s] 29) w.heap.size (by omega)).trans RA.out))
      have rB3 := Lib.hid (row_keep hb2 ((Lib.alloc_old w1 (.cells #[.int .i64 v.k, .int .i64 v.n, .string v.s] 29) (w.heap.size + 1) (by omega)).trans RB.out))
      clear hb2 cA cB hbw2 RA RB
      have cA := rowc rA3.out; have cB := rowc rB3.out
      go_wp2_with fail
      refine (G2.out _).mono ?_; rintro e w3 ⟨rfl, hb3⟩
      have rA4 := Lib.hid (row_keep hb3 rA3.out); have rB4 := Lib.hid (row_keep hb3 rB3.out); have hbw4 := Lib.hid (hbw3.out.trans (hb3.mono hbw3.out.size))
      clear hb3 cA cB
      have cA := rowc rA4.out; have cB := rowc rB4.out
      go_wp2_with fail
      go_ret2
      exact ⟨rfl, hbw4.out⟩
end Go.Proofs.YtdfbfhgjpihkiaaDoor
