/- The walk of the statement EncDelta. -/
import Derived.Test.YtddefnnimbjnaaaDoorDelW2
import Derived.Test.YtddefnnimbjnaaaDoorDelW3
import Derived.Test.YtddefnnimbjnaaaDoorValArgs
import Derived.Test.YtddefnnimbjnaaaDoorEnv
namespace Go.Proofs.YtddefnnimbjnaaaDoor
set_option linter.unusedVariables false
open Go Go.RowKit Go.ChangeShapes

theorem fault_info' : ∃ j, Tryd.prog.info? 38 = some j ∧ j.zero = some (.agg #[.int .i64 0, .int .i64 0]) := by
  have h : (Tryd.prog.info? 38).map (·.zero) = some (some (.agg #[.int .i64 0, .int .i64 0])) := by kernel_rfl
  cases hh : Tryd.prog.info? 38 with
  | none => rw [hh] at h; cases h
  | some j => rw [hh] at h; exact ⟨j, rfl, by simpa using h⟩
theorem valsErr_pos' {kind : Int} {l : List Val} (h : valsErr kind l ≠ .nil) : 0 < (valsErr kind l).code := by
  unfold valsErr at h ⊢
  split
  · decide
  · split
    · decide
    · rw [if_neg (by assumption), if_neg (by assumption)] at h
      cases hb : badAt kind l 0 with
      | none => rw [hb] at h; exact absurd rfl h
      | some i => exact (by decide : (0 : Int) < 4)

set_option maxRecDepth 100000 in
set_option maxHeartbeats 2000000 in
theorem encDelta_right2 {w : World} (v : Value) (a : List Val) (I : IsVals w v a) (fa : FitsV a)
    (hL : laidMetH Tryd.prog fullLaid w) :
    Calls Tryd.prog 9 #[.int .i64 2, v] w fun e w' => e = .returned (.bool true) ∧ Below w.heap.size w w' := by
  obtain ⟨adr, hE⟩ := env_of_laid hL
  obtain ⟨jf, hjf, hzf⟩ := fault_info'
  have HI := Lib.hid I; have HE := Lib.hid hE
  have HSa := Lib.hid (fun w1 h => small_any v a w1 h fa.1 fa.2)
  have HVa := Lib.hid (fun (h : a.length ≤ 300) w1 h1 => values_any v a w1 h1 (by omega))
  have HVE := Lib.hid (fun w1 h => show Calls Tryd.prog 23 #[.int .i64 2, v] w1 fun e w' => e = .returned (.agg #[.int .i64 (valsErr 2 a).code, .int .i64 (valsErr 2 a).at']) ∧ Below w1.heap.size w1 w' from valuesError_any 2 v a w1 h fa.1 fa.2)
  have HCP : Hid ((valsErr 2 a = .nil → (valsErr 2 a).code = 0) ∧ (valsErr 2 a ≠ .nil → 0 < (valsErr 2 a).code)) := ⟨fun h => by rw [h]; rfl, valsErr_pos'⟩
  have HPe := Lib.hid (fun (hn : valsErr 2 a ≠ .nil) x w1 h1 h2 => delta_err 2 (.inl rfl) x a w1 adr h1 h2 fa.2 hn)
  have HPo := Lib.hid (fun (hn : valsErr 2 a = .nil) x w1 h2 => delta_ok 2 (.inl rfl) x a w1 h2 fa.2 hn)
  have HPO := Lib.hid (fun (hn : valsErr 2 a = .nil) w1 h => deltaOf_any v a w1 h (valsErr_nil hn).2.2.1 fa.2)
  have HFd := Lib.hid (fun (w1 : World) (x : Value) h1 h2 => show Calls Tryd.prog 24 #[x, .agg #[.int .i64 (valsErr 2 a).code, .int .i64 (valsErr 2 a).at']] w1 fun r w' => r = .returned (.bool true) ∧ Below w1.heap.size w1 w' from (faulted_any (w := w1) (adr := adr) (e := valsErr 2 a) (v := x) _ _ h1 h2).mono fun r w' ⟨h1, h2⟩ => ⟨h1.trans (ret_of (by simp)), h2⟩)
  have la := fa.1
  unfold maxLen at la
  generalize (valsErr 2 a).code = c at HVE HCP HFd
  generalize (valsErr 2 a).at' = p at HVE HFd
  obtain ⟨ad, cap, rfl⟩ := I.form
  clear hL hE fa
  clear I
  go_enter Tryd.func9, Tryd.ntmps9
  go_wp2_with fail
  refine (four_any _).mono ?_; rintro e w1 ⟨rfl, hb1⟩
  go_wp2_with fail
  refine (HSa.out w1 (HI.out.below hb1 (Nat.le_refl _))).mono ?_; rintro e w1 ⟨⟨sa, rfl, hsa⟩, rfl⟩
  cases sa with
  | false =>
    go_wp2_with fail
    go_ret
    exact ⟨rfl, hb1⟩
  | true =>
  have ha := hsa rfl
  clear hsa
  go_wp2_with fail
  refine (HVE.out w1 (HI.out.below hb1 (Nat.le_refl _))).mono ?_; rintro e w2 ⟨rfl, hb2⟩
  have hb2 := below_trans hb1 hb2
  clear hb1
  by_cases hn : valsErr 2 a = .nil
  · obtain rfl := HCP.out.1 hn
    have HN := Lib.hid hn
    clear hn
    go_wp2_with (first
      | (refine wpList_alloc_row rfl 38 rfl jf _ _ hjf hzf rfl ?_)
      | (refine wpList_store_new rfl rfl 38 _ _ rfl rfl _ #[.int .i64 0, .int .i64 p] rfl (by kernel_rfl) rfl (by simp [Value.oneCell']) ?_))
    have hb3 : Below w.heap.size w (w2.alloc (.cells #[.int .i64 0, .int .i64 p] 38)) := hb2.alloc hb2.size _
    have hcl := heap_alloc_new w2 (.cells #[.int .i64 0, .int .i64 p] 38)
    generalize hpb : w2.heap.size = pb at *
    generalize w2.alloc (.cells #[.int .i64 0, .int .i64 p] 38) = w3 at *
    have Hcl := Lib.hid hcl
    clear hb2 hpb hcl
    refine (HVa.out ha _ (HI.out.below hb3 (Nat.le_refl _))).mono ?_; rintro e w4 ⟨⟨x, rfl, hx⟩, hb4⟩
    have hcl4 := (hb4.block pb (Array.getElem?_eq_some_iff.1 Hcl.out).1).trans Hcl.out
    have hb4 := below_trans hb3 hb4
    have Hx := Lib.hid hx
    have Hcl4 := Lib.hid hcl4
    clear hb3 hx Hcl hcl4
    go_wp2_with fail
    refine (HPo.out HN.out x w4 Hx.out).mono ?_; rintro e w5 ⟨rfl, hb5⟩
    have hcl5 := (hb5.block pb (Array.getElem?_eq_some_iff.1 Hcl4.out).1).trans Hcl4.out
    have hb5 := below_trans hb4 hb5
    have q0 : w5.cell? ⟨pb, 0, none⟩ = some (.int .i64 0) := by rw [Lib.cell_of_heap hcl5]; rfl
    clear hb4 hcl5
    generalize deltaB (numsI a) = pl at *
    go_wp2_with fail
    refine (HPO.out HN.out w5 (HI.out.below hb5 (Nat.le_refl _))).mono ?_; rintro e w6 ⟨rfl, hb6⟩
    go_wp2_with fail
    go_ret
    exact ⟨ret_of (by simp), below_trans hb5 hb6⟩
  · have hc := HCP.out.2 hn
    have HN := Lib.hid hn
    clear hn
    go_wp2_with (first
      | (refine wpList_alloc_row rfl 38 rfl jf _ _ hjf hzf rfl ?_)
      | (refine wpList_store_new rfl rfl 38 _ _ rfl rfl _ #[.int .i64 c, .int .i64 p] rfl (by kernel_rfl) rfl (by simp [Value.oneCell']) ?_))
    have hb3 : Below w.heap.size w (w2.alloc (.cells #[.int .i64 c, .int .i64 p] 38)) := hb2.alloc hb2.size _
    have hcl := heap_alloc_new w2 (.cells #[.int .i64 c, .int .i64 p] 38)
    generalize hpb : w2.heap.size = pb at *
    generalize w2.alloc (.cells #[.int .i64 c, .int .i64 p] 38) = w3 at *
    have Hcl := Lib.hid hcl
    clear hb2 hpb hcl
    refine (HVa.out ha _ (HI.out.below hb3 (Nat.le_refl _))).mono ?_; rintro e w4 ⟨⟨x, rfl, hx⟩, hb4⟩
    have hcl4 := (hb4.block pb (Array.getElem?_eq_some_iff.1 Hcl.out).1).trans Hcl.out
    have hb4 := below_trans hb3 hb4
    have Hx := Lib.hid hx
    have Hcl4 := Lib.hid hcl4
    clear hb3 hx Hcl hcl4
    go_wp2_with fail
    refine (HPe.out HN.out x w4 ((HE.out.below hb4).errs.sub rfl) Hx.out).mono ?_; rintro e w5 ⟨⟨y, rfl, hy⟩, hb5⟩
    have hcl5 := (hb5.block pb (Array.getElem?_eq_some_iff.1 Hcl4.out).1).trans Hcl4.out
    have hb5 := below_trans hb4 hb5
    have q0 : w5.cell? ⟨pb, 0, none⟩ = some (.int .i64 c) := by rw [Lib.cell_of_heap hcl5]; rfl
    have Hcl5 := Lib.hid hcl5; have Hy := Lib.hid hy
    clear hb4 hcl5 hy
    go_wp2_with (refine wpList_load_row rfl 38 _ rfl pb rfl 38 #[.int .i64 c, .int .i64 p] (0, 0) _ Hcl5.out Tryd.underlying38 rfl (by kernel_rfl) ?_)
    refine (HFd.out w5 y (HE.out.below hb5) Hy.out).mono ?_; rintro e w6 ⟨rfl, hb6⟩
    go_wp2_with fail
    go_ret
    exact ⟨ret_of (by simp), below_trans hb5 hb6⟩

set_option maxRecDepth 100000 in
set_option maxHeartbeats 2000000 in
theorem encDelta_right3 {w : World} (v : Value) (a : List Val) (I : IsVals w v a) (fa : FitsV a)
    (hL : laidMetH Tryd.prog fullLaid w) :
    Calls Tryd.prog 9 #[.int .i64 3, v] w fun e w' => e = .returned (.bool true) ∧ Below w.heap.size w w' := by
  obtain ⟨adr, hE⟩ := env_of_laid hL
  obtain ⟨jf, hjf, hzf⟩ := fault_info'
  have HI := Lib.hid I; have HE := Lib.hid hE
  have HSa := Lib.hid (fun w1 h => small_any v a w1 h fa.1 fa.2)
  have HVa := Lib.hid (fun (h : a.length ≤ 300) w1 h1 => values_any v a w1 h1 (by omega))
  have HVE := Lib.hid (fun w1 h => show Calls Tryd.prog 23 #[.int .i64 3, v] w1 fun e w' => e = .returned (.agg #[.int .i64 (valsErr 3 a).code, .int .i64 (valsErr 3 a).at']) ∧ Below w1.heap.size w1 w' from valuesError_any 3 v a w1 h fa.1 fa.2)
  have HCP : Hid ((valsErr 3 a = .nil → (valsErr 3 a).code = 0) ∧ (valsErr 3 a ≠ .nil → 0 < (valsErr 3 a).code)) := ⟨fun h => by rw [h]; rfl, valsErr_pos'⟩
  have HPe := Lib.hid (fun (hn : valsErr 3 a ≠ .nil) x w1 h1 h2 => delta_err 3 (.inr rfl) x a w1 adr h1 h2 fa.2 hn)
  have HPo := Lib.hid (fun (hn : valsErr 3 a = .nil) x w1 h2 => delta_ok 3 (.inr rfl) x a w1 h2 fa.2 hn)
  have HPO := Lib.hid (fun (hn : valsErr 3 a = .nil) w1 h => deltaOf_any v a w1 h (valsErr_nil hn).2.2.1 fa.2)
  have HFd := Lib.hid (fun (w1 : World) (x : Value) h1 h2 => show Calls Tryd.prog 24 #[x, .agg #[.int .i64 (valsErr 3 a).code, .int .i64 (valsErr 3 a).at']] w1 fun r w' => r = .returned (.bool true) ∧ Below w1.heap.size w1 w' from (faulted_any (w := w1) (adr := adr) (e := valsErr 3 a) (v := x) _ _ h1 h2).mono fun r w' ⟨h1, h2⟩ => ⟨h1.trans (ret_of (by simp)), h2⟩)
  have la := fa.1
  unfold maxLen at la
  generalize (valsErr 3 a).code = c at HVE HCP HFd
  generalize (valsErr 3 a).at' = p at HVE HFd
  obtain ⟨ad, cap, rfl⟩ := I.form
  clear hL hE fa
  clear I
  go_enter Tryd.func9, Tryd.ntmps9
  go_wp2_with fail
  refine (four_any _).mono ?_; rintro e w1 ⟨rfl, hb1⟩
  go_wp2_with fail
  refine (HSa.out w1 (HI.out.below hb1 (Nat.le_refl _))).mono ?_; rintro e w1 ⟨⟨sa, rfl, hsa⟩, rfl⟩
  cases sa with
  | false =>
    go_wp2_with fail
    go_ret
    exact ⟨rfl, hb1⟩
  | true =>
  have ha := hsa rfl
  clear hsa
  go_wp2_with fail
  refine (HVE.out w1 (HI.out.below hb1 (Nat.le_refl _))).mono ?_; rintro e w2 ⟨rfl, hb2⟩
  have hb2 := below_trans hb1 hb2
  clear hb1
  by_cases hn : valsErr 3 a = .nil
  · obtain rfl := HCP.out.1 hn
    have HN := Lib.hid hn
    clear hn
    go_wp2_with (first
      | (refine wpList_alloc_row rfl 38 rfl jf _ _ hjf hzf rfl ?_)
      | (refine wpList_store_new rfl rfl 38 _ _ rfl rfl _ #[.int .i64 0, .int .i64 p] rfl (by kernel_rfl) rfl (by simp [Value.oneCell']) ?_))
    have hb3 : Below w.heap.size w (w2.alloc (.cells #[.int .i64 0, .int .i64 p] 38)) := hb2.alloc hb2.size _
    have hcl := heap_alloc_new w2 (.cells #[.int .i64 0, .int .i64 p] 38)
    generalize hpb : w2.heap.size = pb at *
    generalize w2.alloc (.cells #[.int .i64 0, .int .i64 p] 38) = w3 at *
    have Hcl := Lib.hid hcl
    clear hb2 hpb hcl
    refine (HVa.out ha _ (HI.out.below hb3 (Nat.le_refl _))).mono ?_; rintro e w4 ⟨⟨x, rfl, hx⟩, hb4⟩
    have hcl4 := (hb4.block pb (Array.getElem?_eq_some_iff.1 Hcl.out).1).trans Hcl.out
    have hb4 := below_trans hb3 hb4
    have Hx := Lib.hid hx
    have Hcl4 := Lib.hid hcl4
    clear hb3 hx Hcl hcl4
    go_wp2_with fail
    refine (HPo.out HN.out x w4 Hx.out).mono ?_; rintro e w5 ⟨rfl, hb5⟩
    have hcl5 := (hb5.block pb (Array.getElem?_eq_some_iff.1 Hcl4.out).1).trans Hcl4.out
    have hb5 := below_trans hb4 hb5
    have q0 : w5.cell? ⟨pb, 0, none⟩ = some (.int .i64 0) := by rw [Lib.cell_of_heap hcl5]; rfl
    clear hb4 hcl5
    generalize deltaB (numsI a) = pl at *
    go_wp2_with fail
    refine (HPO.out HN.out w5 (HI.out.below hb5 (Nat.le_refl _))).mono ?_; rintro e w6 ⟨rfl, hb6⟩
    go_wp2_with fail
    go_ret
    exact ⟨ret_of (by simp), below_trans hb5 hb6⟩
  · have hc := HCP.out.2 hn
    have HN := Lib.hid hn
    clear hn
    go_wp2_with (first
      | (refine wpList_alloc_row rfl 38 rfl jf _ _ hjf hzf rfl ?_)
      | (refine wpList_store_new rfl rfl 38 _ _ rfl rfl _ #[.int .i64 c, .int .i64 p] rfl (by kernel_rfl) rfl (by simp [Value.oneCell']) ?_))
    have hb3 : Below w.heap.size w (w2.alloc (.cells #[.int .i64 c, .int .i64 p] 38)) := hb2.alloc hb2.size _
    have hcl := heap_alloc_new w2 (.cells #[.int .i64 c, .int .i64 p] 38)
    generalize hpb : w2.heap.size = pb at *
    generalize w2.alloc (.cells #[.int .i64 c, .int .i64 p] 38) = w3 at *
    have Hcl := Lib.hid hcl
    clear hb2 hpb hcl
    refine (HVa.out ha _ (HI.out.below hb3 (Nat.le_refl _))).mono ?_; rintro e w4 ⟨⟨x, rfl, hx⟩, hb4⟩
    have hcl4 := (hb4.block pb (Array.getElem?_eq_some_iff.1 Hcl.out).1).trans Hcl.out
    have hb4 := below_trans hb3 hb4
    have Hx := Lib.hid hx
    have Hcl4 := Lib.hid hcl4
    clear hb3 hx Hcl hcl4
    go_wp2_with fail
    refine (HPe.out HN.out x w4 ((HE.out.below hb4).errs.sub rfl) Hx.out).mono ?_; rintro e w5 ⟨⟨y, rfl, hy⟩, hb5⟩
    have hcl5 := (hb5.block pb (Array.getElem?_eq_some_iff.1 Hcl4.out).1).trans Hcl4.out
    have hb5 := below_trans hb4 hb5
    have q0 : w5.cell? ⟨pb, 0, none⟩ = some (.int .i64 c) := by rw [Lib.cell_of_heap hcl5]; rfl
    have Hcl5 := Lib.hid hcl5; have Hy := Lib.hid hy
    clear hb4 hcl5 hy
    go_wp2_with (refine wpList_load_row rfl 38 _ rfl pb rfl 38 #[.int .i64 c, .int .i64 p] (0, 0) _ Hcl5.out Tryd.underlying38 rfl (by kernel_rfl) ?_)
    refine (HFd.out w5 y (HE.out.below hb5) Hy.out).mono ?_; rintro e w6 ⟨rfl, hb6⟩
    go_wp2_with fail
    go_ret
    exact ⟨ret_of (by simp), below_trans hb5 hb6⟩

set_option maxRecDepth 100000 in
set_option maxHeartbeats 2000000 in
theorem encDelta_kind {w : World} (kind : Int) (v : Value) (a : List Val) (I : IsVals w v a) (fa : FitsV a) (h2 : kind ≠ 2) (h3 : kind ≠ 3)
    (hL : laidMetH Tryd.prog fullLaid w) :
    Calls Tryd.prog 9 #[.int .i64 kind, v] w fun e w' => e = .returned (.bool true) ∧ Below w.heap.size w w' := by
  obtain ⟨adr, hE⟩ := env_of_laid hL
  obtain ⟨jf, hjf, hzf⟩ := fault_info'
  have HI := Lib.hid I; have HE := Lib.hid hE
  have HSa := Lib.hid (fun w1 h => small_any v a w1 h fa.1 fa.2)
  have HVa := Lib.hid (fun (h : a.length ≤ 300) w1 h1 => values_any v a w1 h1 (by omega))
  have HVE := Lib.hid (fun w1 h => show Calls Tryd.prog 23 #[.int .i64 kind, v] w1 fun e w' => e = .returned (.agg #[.int .i64 (valsErr kind a).code, .int .i64 (valsErr kind a).at']) ∧ Below w1.heap.size w1 w' from valuesError_any kind v a w1 h fa.1 fa.2)
  have HBa := Lib.hid (fun w1 => show Calls Tryd.prog 33 #[.int .i64 4] w1 fun e w' => e = .returned (.agg #[.int .i64 4, .int .i64 (-1)]) ∧ Below w1.heap.size w1 w' from bare_any 4 w1)
  have HDk := Lib.hid (fun x w1 h1 h => delta_kind kind x a w1 adr h1 h h2 h3)
  have HFd := Lib.hid (fun (w1 : World) h1 => show Calls Tryd.prog 24 #[.iface 173 (.pointer (some (adr 4))), .agg #[.int .i64 4, .int .i64 (-1)]] w1 fun r w' => r = .returned (.bool true) ∧ Below w1.heap.size w1 w' from faulted_any (w := w1) (adr := adr) (e := .sent 4) 4 (-1) h1 ⟨by decide, by decide, rfl⟩)
  have la := fa.1
  unfold maxLen at la
  generalize (valsErr kind a).code = c at HVE
  generalize (valsErr kind a).at' = p at HVE
  have d2 : (kind != 2) = true := by simpa using h2
  have d3 : (kind != 3) = true := by simpa using h3
  obtain ⟨ad, cap, rfl⟩ := I.form
  clear hL hE fa h2 h3
  clear I
  go_enter Tryd.func9, Tryd.ntmps9
  go_wp2_with fail
  refine (four_any _).mono ?_; rintro e w1 ⟨rfl, hb1⟩
  go_wp2_with fail
  refine (HSa.out w1 (HI.out.below hb1 (Nat.le_refl _))).mono ?_; rintro e w1 ⟨⟨sa, rfl, hsa⟩, rfl⟩
  cases sa with
  | false =>
    go_wp2_with fail
    go_ret
    exact ⟨rfl, hb1⟩
  | true =>
  have ha := hsa rfl
  clear hsa
  go_wp2_with fail
  refine (HVE.out w1 (HI.out.below hb1 (Nat.le_refl _))).mono ?_; rintro e w2 ⟨rfl, hb2⟩
  have hb2 := below_trans hb1 hb2
  clear hb1
  go_wp2_with (first
    | (refine wpList_alloc_row rfl 38 rfl jf _ _ hjf hzf rfl ?_)
    | (refine wpList_store_new rfl rfl 38 _ _ rfl rfl _ #[.int .i64 c, .int .i64 p] rfl (by kernel_rfl) rfl (by simp [Value.oneCell']) ?_))
  have hb3 : Below w.heap.size w (w2.alloc (.cells #[.int .i64 c, .int .i64 p] 38)) := hb2.alloc hb2.size _
  have hcl := heap_alloc_new w2 (.cells #[.int .i64 c, .int .i64 p] 38)
  have hpbw : w.heap.size ≤ w2.heap.size := hb2.size
  generalize hpb : w2.heap.size = pb at *
  generalize w2.alloc (.cells #[.int .i64 c, .int .i64 p] 38) = w3 at *
  have Hcl := Lib.hid hcl
  clear hb2 hpb hcl
  refine (HBa.out _).mono ?_; rintro e w4 ⟨rfl, hb4⟩
  have hcl4 := (hb4.block pb (Array.getElem?_eq_some_iff.1 Hcl.out).1).trans Hcl.out
  have Hcl4 := Lib.hid hcl4
  have hb4 := below_trans hb3 hb4
  clear hb3 hcl4
  go_wp2_with (refine wpList_store_row rfl rfl 38 _ _ rfl _ rfl _ #[.int .i64 4, .int .i64 (-1)] rfl _ Hcl4.out (by kernel_rfl) rfl (by simp [Value.oneCell']) ?_)
  have hb5 : Below w.heap.size w (w4.setRow pb #[.int .i64 4, .int .i64 (-1)]) := below_setRow hb4 hpbw _
  have hcl5 : (w4.setRow pb #[.int .i64 4, .int .i64 (-1)]).heap[pb]? = some (.cells #[.int .i64 4, .int .i64 (-1)] 38 (0, 0)) := setRow_heap _ _ _ _ _ _ Hcl4.out
  generalize w4.setRow pb #[.int .i64 4, .int .i64 (-1)] = w5 at *
  have Hcl5 := Lib.hid hcl5
  clear hb4 hcl5
  refine (HVa.out ha _ (HI.out.below hb5 (Nat.le_refl _))).mono ?_; rintro e w6 ⟨⟨x, rfl, hx⟩, hb6⟩
  have hcl6 := (hb6.block pb (Array.getElem?_eq_some_iff.1 Hcl5.out).1).trans Hcl5.out
  have hb6 := below_trans hb5 hb6
  have Hx := Lib.hid hx; have Hcl6 := Lib.hid hcl6
  clear hb5 hx hcl6
  go_wp2_with fail
  refine (HDk.out x w6 ((HE.out.below hb6).errs.sub rfl) Hx.out).mono ?_; rintro e w7 ⟨rfl, hb7⟩
  have hcl7 := (hb7.block pb (Array.getElem?_eq_some_iff.1 Hcl6.out).1).trans Hcl6.out
  have hb7 := below_trans hb6 hb7
  have q0 : w7.cell? ⟨pb, 0, none⟩ = some (.int .i64 4) := by rw [Lib.cell_of_heap hcl7]; rfl
  have Hcl7 := Lib.hid hcl7
  clear hb6 hcl7
  go_wp2_with (refine wpList_load_row rfl 38 _ rfl pb rfl 38 #[.int .i64 4, .int .i64 (-1)] (0, 0) _ Hcl7.out Tryd.underlying38 rfl (by kernel_rfl) ?_)
  refine (HFd.out w7 (HE.out.below hb7)).mono ?_; rintro e w8 ⟨rfl, hb8⟩
  go_wp2_with fail
  go_ret
  exact ⟨ret_of (by simp), below_trans hb7 hb8⟩

theorem encDelta_law {w : World} (kind : Int) (k0 : -9223372036854775808 ≤ kind) (k1 : kind < 9223372036854775808) (v : Value) (a : List Val) (I : IsVals w v a) (fa : FitsV a)
    (hL : laidMetH Tryd.prog fullLaid w) :
    Calls Tryd.prog 9 #[.int .i64 kind, v] w fun e w' => e = .returned (.bool true) ∧ Below w.heap.size w w' := by
  by_cases h2 : kind = 2
  · subst h2; exact encDelta_right2 v a I fa hL
  · by_cases h3 : kind = 3
    · subst h3; exact encDelta_right3 v a I fa hL
    · exact encDelta_kind kind v a I fa h2 h3 hL
end Go.Proofs.YtddefnnimbjnaaaDoor
