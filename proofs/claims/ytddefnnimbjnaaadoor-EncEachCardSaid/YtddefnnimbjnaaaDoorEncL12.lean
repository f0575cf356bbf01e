/- The walk of the statement EncEach. -/
import Derived.Test.YtddefnnimbjnaaaDoorEncL11
namespace Go.Proofs.YtddefnnimbjnaaaDoor
set_option linter.unusedVariables false
open Go Go.RowKit Go.ChangeShapes

set_option maxRecDepth 100000 in
set_option maxHeartbeats 1000000 in
theorem readDict_err (kind n : Int) (s : ByteArray) (w : World) (adr : Nat → Addr) (hE : ErrsAt w adr [2, 4]) (hm : manyErr kind n ≠ .nil) :
    Calls Tryd.prog 39 #[.int .i64 kind, .string s, .int .i64 n] w fun e w' => (∃ u, e = .returned (.tuple #[.slice none 0 0, u]) ∧ IsErr w' adr (manyErr kind n) u) ∧ w' = w := by
  have HC := Lib.hid (known_any kind n w adr hE)
  have HN := Lib.hid hm
  clear hE hm
  go_enter Tryd.func39, Tryd.ntmps39
  go_wp2_with fail
  refine HC.out.mono ?_; rintro e w1 ⟨⟨u, rfl, hu⟩, rfl⟩
  have HU := Lib.hid hu
  obtain ⟨T, a, rfl, hT⟩ := hu.some' HN.out
  clear hu
  rcases hT with rfl | rfl
  all_goals
    go_wp2_with fail
    go_ret2
    exact ⟨⟨_, rfl, HU.out⟩, rfl⟩
theorem bytesL_inj : ∀ {a b : List ByteArray}, bytesL a = bytesL b → a = b
  | [], [], _ => rfl
  | [], _ :: _, h => by simp [bytesL] at h
  | _ :: _, [], h => by simp [bytesL] at h
  | x :: a, y :: b, h => by
    simp only [bytesL, List.map_cons, List.cons.injEq] at h
    have e1 : x = y := by rw [← ba_mk x, ← ba_mk y, h.1]
    have e2 := bytesL_inj (a := a) (b := b) h.2
    rw [e1, e2]
theorem manyErr_bad {kind n : Int} (h : manyErr kind n ≠ .nil) : kind < 1 ∨ 5 < kind ∨ n < 0 ∨ 20000 < n := by
  by_cases h1 : kind < 1 ∨ 5 < kind
  · rcases h1 with h1 | h1
    · exact .inl h1
    · exact .inr (.inl h1)
  · by_cases h2 : n < 0 ∨ 20000 < n
    · exact .inr (.inr h2)
    · unfold manyErr at h
      rw [if_neg h1, if_neg h2] at h
      exact absurd rfl h

set_option maxRecDepth 100000 in
set_option maxHeartbeats 2000000 in
theorem encEach_early (kind : Int) (s : ByteArray) (n : Int) (w : World) (h : 1000 < s.size ∨ 300 < n ∧ n ≤ 20000) (hs : s.size ≤ maxLen) :
    Calls Tryd.prog 13 #[.int .i64 kind, .string s, .int .i64 n] w fun e w' => e = .returned (.bool true) ∧ Below w.heap.size w w' := by
  unfold maxLen at hs
  by_cases h1000 : 1000 < s.size
  · have hi : (1000 : Int) < (s.size : Int) := by omega
    clear h h1000
    go_enter Tryd.func13, Tryd.ntmps13
    go_wp2_with fail
    refine (four_any _).mono ?_; rintro e w1 ⟨rfl, hb1⟩
    go_wp2_with fail
    go_ret
    exact ⟨rfl, hb1⟩
  · have hi : (s.size : Int) ≤ 1000 := by omega
    have h3 : 300 < n ∧ n ≤ 20000 := h.resolve_left h1000
    obtain ⟨h3, h4⟩ := h3
    clear h h1000
    go_enter Tryd.func13, Tryd.ntmps13
    go_wp2_with fail
    refine (four_any _).mono ?_; rintro e w1 ⟨rfl, hb1⟩
    go_wp2_with fail
    go_ret
    exact ⟨rfl, hb1⟩
set_option maxRecDepth 100000 in
set_option maxHeartbeats 4000000 in
theorem encEach_many (kind : Int) (s : ByteArray) (n : Int) (w : World) (adr : Nat → Addr) (hE : ErrEnv w adr) (hs : s.size ≤ 1000) (hn : n ≤ 300 ∨ 20000 < n) (hm : manyErr kind n ≠ .nil) (g : GErr) (hg : kind ≠ 2 ∧ kind ≠ 3 → g = .sent 4)
    (hC : ∀ w1, ErrEnv w1 adr → Calls Tryd.prog 30 #[.int .i64 kind, .string s, .int .i64 n] w1 fun e w' => (∃ ev, e = .returned (.tuple #[.slice none 0 0, ev]) ∧ IsErr w' adr g ev) ∧ Below w1.heap.size w1 w') :
    Calls Tryd.prog 13 #[.int .i64 kind, .string s, .int .i64 n] w fun e w' => e = .returned (.bool true) ∧ Below w.heap.size w w' := by
  obtain ⟨jf, hjf, hzf⟩ := fault_info11
  have HE := Lib.hid hE; have HCc := Lib.hid hC; have Hg := Lib.hid hg
  have hM := fun w1 => show Calls Tryd.prog 41 #[.int .i64 kind, .int .i64 n] w1 fun e w' => e = .returned (.agg #[.int .i64 (manyErr kind n).code, .int .i64 (manyErr kind n).at']) ∧ Below w1.heap.size w1 w' from manyError_any kind n w1
  have HM := Lib.hid hM
  have HA := Lib.hid (fun w1 (h1 : ErrsAt w1 adr [2, 4]) => readPlain_err kind n s w1 adr h1 (manyErr_bad hm))
  have HB := Lib.hid (fun w1 (h1 : ErrsAt w1 adr [2, 4]) => readDict_err kind n s w1 adr h1 hm)
  have HFd := Lib.hid (fun (w1 : World) (x : Value) h1 h2 => show Calls Tryd.prog 24 #[x, .agg #[.int .i64 (manyErr kind n).code, .int .i64 (manyErr kind n).at']] w1 fun r w' => r = .returned (.bool true) ∧ Below w1.heap.size w1 w' from (faulted_any (w := w1) (adr := adr) (e := manyErr kind n) (v := x) _ _ h1 h2).mono fun r w' ⟨h1, h2⟩ => ⟨h1.trans (ret_of (by simp)), h2⟩)
  have HCd := Lib.hid (fun (w1 : World) (x : Value) (h : ErrEnv w1 adr) (h2 : IsErr w1 adr (.sent 4) x) => show Calls Tryd.prog 27 #[x, .int .i64 4] w1 fun r w' => r = .returned (.bool true) ∧ Below w1.heap.size w1 w' from
    (coded_any (w := w1) (adr := adr) (e := .sent 4) (v := x) 4 h h2).mono fun r w' ⟨h1, h2⟩ => ⟨h1.trans (ret_of (by simp [GErr.code, GErr.at'])), h2⟩)
  have hc := manyErr_pos11 hm
  have Hc := Lib.hid hc
  generalize (manyErr kind n).code = c at *
  generalize (manyErr kind n).at' = p at *
  generalize manyErr kind n = me at *
  have hi : (s.size : Int) ≤ 1000 := by omega
  clear hE hM hm hc hg hC
  by_cases h3 : n ≤ 300
  focus have hq : True := trivial
  rotate_left
  focus have hq : 20000 < n := by omega
  rotate_left
  all_goals
    clear hn
    by_cases k2 : kind = 2
    · have d2 : (kind != 2) = false := by rw [k2]; rfl
      clear k2

      go_enter Tryd.func13, Tryd.ntmps13
      go_wp2_with fail
      refine (four_any _).mono ?_; rintro e w1 ⟨rfl, hb1⟩
      go_wp2_with fail
      refine (HM.out w1).mono ?_; rintro e w2 ⟨rfl, hb2⟩
      have hb2 := below_trans hb1 hb2
      clear hb1

      go_wp2_with (first
        | (refine wpList_alloc_row rfl 38 rfl jf _ _ hjf hzf rfl ?_)
        | (refine wpList_store_new rfl rfl 38 _ _ rfl rfl _ #[.int .i64 c, .int .i64 p] rfl (by kernel_rfl) rfl (by simp [Value.oneCell']) ?_))
      have hb3 : Below w.heap.size w (w2.alloc (.cells #[.int .i64 c, .int .i64 p] 38)) := hb2.alloc hb2.size _
      have hcl := heap_alloc_new w2 (.cells #[.int .i64 c, .int .i64 p] 38)
      generalize hpb : w2.heap.size = pb at *
      generalize w2.alloc (.cells #[.int .i64 c, .int .i64 p] 38) = w3 at *
      have Hcl := Lib.hid hcl
      clear hb2 hpb hcl

      refine (HA.out w3 ((HE.out.below hb3).errs.sub rfl)).mono ?_; rintro e w4 ⟨⟨x1, rfl, hx1⟩, hw4⟩
      subst hw4
      have Hx1 := Lib.hid hx1
      clear hx1
      go_wp2_with fail
      refine (HB.out w4 ((HE.out.below hb3).errs.sub rfl)).mono ?_; rintro e w5 ⟨⟨x2, rfl, hx2⟩, hw5⟩
      subst hw5
      have Hx2 := Lib.hid hx2
      clear hx2
      go_wp2_with fail
      refine (HCc.out w5 (HE.out.below hb3)).mono ?_; rintro e w6 ⟨⟨x3, rfl, hx3⟩, hb6⟩
      have hcl6 := (hb6.block pb (Array.getElem?_eq_some_iff.1 Hcl.out).1).trans Hcl.out
      have Hcl6 := Lib.hid hcl6
      have Hx16 := Lib.hid (Hx1.out.below hb6); have Hx26 := Lib.hid (Hx2.out.below hb6); have Hx3 := Lib.hid hx3
      have Hb6 := Lib.hid (below_trans hb3 hb6)
      have hcp := Hc.out
      clear hb3 hb6 hcl6 hx3
      have q0 : w6.cell? ⟨pb, 0, none⟩ = some (.int .i64 c) := by rw [Lib.cell_of_heap Hcl6.out]; rfl
      go_wp2_with (refine wpList_load_row rfl 38 _ rfl pb rfl 38 #[.int .i64 c, .int .i64 p] (0, 0) _ Hcl6.out Tryd.underlying38 rfl (by kernel_rfl) ?_)
      refine (HFd.out w6 x1 (HE.out.below Hb6.out) Hx16.out).mono ?_; rintro e w8 ⟨rfl, hb8⟩
      have Hcl8 := Lib.hid ((hb8.block pb (Array.getElem?_eq_some_iff.1 Hcl6.out).1).trans Hcl6.out)
      have Hx28 := Lib.hid (Hx26.out.below hb8)
      have Hb8 := Lib.hid (below_trans Hb6.out hb8)
      have q80 : w8.cell? ⟨pb, 0, none⟩ = some (.int .i64 c) := by rw [Lib.cell_of_heap Hcl8.out]; rfl
      have q81 : w8.cell? ⟨pb, 1, none⟩ = some (.int .i64 p) := by rw [Lib.cell_of_heap Hcl8.out]; rfl
      clear hb8 q0
      go_wp2_with fail
      refine (HFd.out w8 x2 (HE.out.below Hb8.out) Hx28.out).mono ?_; rintro e w9 ⟨rfl, hb9⟩
      go_wp2_with fail
      go_ret
      exact ⟨ret_of (by simp), below_trans Hb8.out hb9⟩
    · have d2 : (kind != 2) = true := by rw [bne_iff_ne]; exact k2
      by_cases k3 : kind = 3
      · have d3 : (kind != 3) = false := by rw [k3]; rfl
        clear k2 k3

        go_enter Tryd.func13, Tryd.ntmps13
        go_wp2_with fail
        refine (four_any _).mono ?_; rintro e w1 ⟨rfl, hb1⟩
        go_wp2_with fail
        refine (HM.out w1).mono ?_; rintro e w2 ⟨rfl, hb2⟩
        have hb2 := below_trans hb1 hb2
        clear hb1

        go_wp2_with (first
          | (refine wpList_alloc_row rfl 38 rfl jf _ _ hjf hzf rfl ?_)
          | (refine wpList_store_new rfl rfl 38 _ _ rfl rfl _ #[.int .i64 c, .int .i64 p] rfl (by kernel_rfl) rfl (by simp [Value.oneCell']) ?_))
        have hb3 : Below w.heap.size w (w2.alloc (.cells #[.int .i64 c, .int .i64 p] 38)) := hb2.alloc hb2.size _
        have hcl := heap_alloc_new w2 (.cells #[.int .i64 c, .int .i64 p] 38)
        generalize hpb : w2.heap.size = pb at *
        generalize w2.alloc (.cells #[.int .i64 c, .int .i64 p] 38) = w3 at *
        have Hcl := Lib.hid hcl
        clear hb2 hpb hcl

        refine (HA.out w3 ((HE.out.below hb3).errs.sub rfl)).mono ?_; rintro e w4 ⟨⟨x1, rfl, hx1⟩, hw4⟩
        subst hw4
        have Hx1 := Lib.hid hx1
        clear hx1
        go_wp2_with fail
        refine (HB.out w4 ((HE.out.below hb3).errs.sub rfl)).mono ?_; rintro e w5 ⟨⟨x2, rfl, hx2⟩, hw5⟩
        subst hw5
        have Hx2 := Lib.hid hx2
        clear hx2
        go_wp2_with fail
        refine (HCc.out w5 (HE.out.below hb3)).mono ?_; rintro e w6 ⟨⟨x3, rfl, hx3⟩, hb6⟩
        have hcl6 := (hb6.block pb (Array.getElem?_eq_some_iff.1 Hcl.out).1).trans Hcl.out
        have Hcl6 := Lib.hid hcl6
        have Hx16 := Lib.hid (Hx1.out.below hb6); have Hx26 := Lib.hid (Hx2.out.below hb6); have Hx3 := Lib.hid hx3
        have Hb6 := Lib.hid (below_trans hb3 hb6)
        have hcp := Hc.out
        clear hb3 hb6 hcl6 hx3
        have q0 : w6.cell? ⟨pb, 0, none⟩ = some (.int .i64 c) := by rw [Lib.cell_of_heap Hcl6.out]; rfl
        go_wp2_with (refine wpList_load_row rfl 38 _ rfl pb rfl 38 #[.int .i64 c, .int .i64 p] (0, 0) _ Hcl6.out Tryd.underlying38 rfl (by kernel_rfl) ?_)
        refine (HFd.out w6 x1 (HE.out.below Hb6.out) Hx16.out).mono ?_; rintro e w8 ⟨rfl, hb8⟩
        have Hcl8 := Lib.hid ((hb8.block pb (Array.getElem?_eq_some_iff.1 Hcl6.out).1).trans Hcl6.out)
        have Hx28 := Lib.hid (Hx26.out.below hb8)
        have Hb8 := Lib.hid (below_trans Hb6.out hb8)
        have q80 : w8.cell? ⟨pb, 0, none⟩ = some (.int .i64 c) := by rw [Lib.cell_of_heap Hcl8.out]; rfl
        have q81 : w8.cell? ⟨pb, 1, none⟩ = some (.int .i64 p) := by rw [Lib.cell_of_heap Hcl8.out]; rfl
        clear hb8 q0
        go_wp2_with fail
        refine (HFd.out w8 x2 (HE.out.below Hb8.out) Hx28.out).mono ?_; rintro e w9 ⟨rfl, hb9⟩
        go_wp2_with fail
        go_ret
        exact ⟨ret_of (by simp), below_trans Hb8.out hb9⟩
      · have d3 : (kind != 3) = true := by rw [bne_iff_ne]; exact k3
        have hg4 := Hg.out ⟨k2, k3⟩
        subst hg4
        clear k2 k3

        go_enter Tryd.func13, Tryd.ntmps13
        go_wp2_with fail
        refine (four_any _).mono ?_; rintro e w1 ⟨rfl, hb1⟩
        go_wp2_with fail
        refine (HM.out w1).mono ?_; rintro e w2 ⟨rfl, hb2⟩
        have hb2 := below_trans hb1 hb2
        clear hb1

        go_wp2_with (first
          | (refine wpList_alloc_row rfl 38 rfl jf _ _ hjf hzf rfl ?_)
          | (refine wpList_store_new rfl rfl 38 _ _ rfl rfl _ #[.int .i64 c, .int .i64 p] rfl (by kernel_rfl) rfl (by simp [Value.oneCell']) ?_))
        have hb3 : Below w.heap.size w (w2.alloc (.cells #[.int .i64 c, .int .i64 p] 38)) := hb2.alloc hb2.size _
        have hcl := heap_alloc_new w2 (.cells #[.int .i64 c, .int .i64 p] 38)
        generalize hpb : w2.heap.size = pb at *
        generalize w2.alloc (.cells #[.int .i64 c, .int .i64 p] 38) = w3 at *
        have Hcl := Lib.hid hcl
        clear hb2 hpb hcl

        refine (HA.out w3 ((HE.out.below hb3).errs.sub rfl)).mono ?_; rintro e w4 ⟨⟨x1, rfl, hx1⟩, hw4⟩
        subst hw4
        have Hx1 := Lib.hid hx1
        clear hx1
        go_wp2_with fail
        refine (HB.out w4 ((HE.out.below hb3).errs.sub rfl)).mono ?_; rintro e w5 ⟨⟨x2, rfl, hx2⟩, hw5⟩
        subst hw5
        have Hx2 := Lib.hid hx2
        clear hx2
        go_wp2_with fail
        refine (HCc.out w5 (HE.out.below hb3)).mono ?_; rintro e w6 ⟨⟨x3, rfl, hx3⟩, hb6⟩
        have hcl6 := (hb6.block pb (Array.getElem?_eq_some_iff.1 Hcl.out).1).trans Hcl.out
        have Hcl6 := Lib.hid hcl6
        have Hx16 := Lib.hid (Hx1.out.below hb6); have Hx26 := Lib.hid (Hx2.out.below hb6); have Hx3 := Lib.hid hx3
        have Hb6 := Lib.hid (below_trans hb3 hb6)
        have hcp := Hc.out
        clear hb3 hb6 hcl6 hx3
        go_wp2_with fail
        refine (HCd.out w6 x3 (HE.out.below Hb6.out) Hx3.out).mono ?_; rintro e w7 ⟨rfl, hb7⟩
        have Hcl7 := Lib.hid ((hb7.block pb (Array.getElem?_eq_some_iff.1 Hcl6.out).1).trans Hcl6.out)
        have Hx17 := Lib.hid (Hx16.out.below hb7); have Hx27 := Lib.hid (Hx26.out.below hb7)
        have Hb7 := Lib.hid (below_trans Hb6.out hb7)
        clear hb7
        have q0 : w7.cell? ⟨pb, 0, none⟩ = some (.int .i64 c) := by rw [Lib.cell_of_heap Hcl7.out]; rfl
        go_wp2_with (refine wpList_load_row rfl 38 _ rfl pb rfl 38 #[.int .i64 c, .int .i64 p] (0, 0) _ Hcl7.out Tryd.underlying38 rfl (by kernel_rfl) ?_)
        refine (HFd.out w7 x1 (HE.out.below Hb7.out) Hx17.out).mono ?_; rintro e w8 ⟨rfl, hb8⟩
        have Hcl8 := Lib.hid ((hb8.block pb (Array.getElem?_eq_some_iff.1 Hcl7.out).1).trans Hcl7.out)
        have Hx28 := Lib.hid (Hx27.out.below hb8)
        have Hb8 := Lib.hid (below_trans Hb7.out hb8)
        have q80 : w8.cell? ⟨pb, 0, none⟩ = some (.int .i64 c) := by rw [Lib.cell_of_heap Hcl8.out]; rfl
        have q81 : w8.cell? ⟨pb, 1, none⟩ = some (.int .i64 p) := by rw [Lib.cell_of_heap Hcl8.out]; rfl
        clear hb8 q0
        go_wp2_with fail
        refine (HFd.out w8 x2 (HE.out.below Hb8.out) Hx28.out).mono ?_; rintro e w9 ⟨rfl, hb9⟩
        go_wp2_with fail
        go_ret
        exact ⟨ret_of (by simp), below_trans Hb8.out hb9⟩
end Go.Proofs.YtddefnnimbjnaaaDoor
