/- Merged texts: EncL8. -/
import Derived.Test.YtddefnnimbjnaaaDoorMBest

/- The walk of the statement EncBest. -/
namespace Go.Proofs.YtddefnnimbjnaaaDoor
set_option linter.unusedVariables false
open Go Go.RowKit Go.ChangeShapes

set_option maxRecDepth 100000 in
set_option maxHeartbeats 2000000 in
theorem encBest_law {w : World} (kind : Int) (k0 : -9223372036854775808 ≤ kind) (k1 : kind < 9223372036854775808) (v : Value) (a : List Val) (I : IsVals w v a) (fa : FitsV a)
    (hL : laidMetH Tryd.prog fullLaid w) :
    Calls Tryd.prog 11 #[.int .i64 kind, v] w fun e w' => e = .returned (.bool true) ∧ Below w.heap.size w w' := by
  obtain ⟨adr, hE⟩ := env_of_laid hL
  obtain ⟨jf, hjf, hzf⟩ := fault_info7
  have HI := Lib.hid I; have HE := Lib.hid hE
  have HSa := Lib.hid (fun w1 h => small_any v a w1 h fa.1 fa.2)
  have HVa := Lib.hid (fun (h : a.length ≤ 300) w1 h1 => values_any v a w1 h1 (by omega))
  have HVE := Lib.hid (fun w1 h => show Calls Tryd.prog 23 #[.int .i64 kind, v] w1 fun e w' => e = .returned (.agg #[.int .i64 (valsErr kind a).code, .int .i64 (valsErr kind a).at']) ∧ Below w1.heap.size w1 w' from valuesError_any kind v a w1 h fa.1 fa.2)
  have HCP : Hid ((valsErr kind a = .nil → (valsErr kind a).code = 0) ∧ (valsErr kind a ≠ .nil → 0 < (valsErr kind a).code)) := ⟨fun h => by rw [h]; rfl, valsErr_pos7⟩
  have HPe := Lib.hid (fun (hn : valsErr kind a ≠ .nil) x w1 h1 h2 => best_err kind x a w1 adr h1 h2 fa.2 hn)
  have HPo := Lib.hid (fun (hn : valsErr kind a = .nil) (h3 : a.length ≤ 300) x w1 h1 h2 => best_ok kind x a w1 adr h1 h2 (by omega) fa.2 hn)
  have HPO := Lib.hid (fun (hn : valsErr kind a = .nil) (h3 : a.length ≤ 300) w1 h => bestOf_any kind v a w1 h (by omega) fa.2 hn)
  have HFd := Lib.hid (fun (w1 : World) (x : Value) h1 h2 => show Calls Tryd.prog 24 #[x, .agg #[.int .i64 (valsErr kind a).code, .int .i64 (valsErr kind a).at']] w1 fun r w' => r = .returned (.bool true) ∧ Below w1.heap.size w1 w' from (faulted_any (w := w1) (adr := adr) (e := valsErr kind a) (v := x) _ _ h1 h2).mono fun r w' ⟨h1, h2⟩ => ⟨h1.trans (ret_of (by simp)), h2⟩)
  have la := fa.1
  unfold maxLen at la
  generalize (valsErr kind a).code = c at HVE HCP HFd
  generalize (valsErr kind a).at' = p at HVE HFd
  obtain ⟨ad, cap, rfl⟩ := I.form
  clear hL hE fa
  clear I
  go_enter Tryd.func11, Tryd.ntmps11
  go_wp2_with fail
  refine (four_any _).mono ?_; rintro e w1 ⟨rfl, hb1⟩
  go_wp2_with fail
  refine (HSa.out w1 (HI.out.below hb1 (Nat.le_refl _))).mono ?_; rintro e w1 ⟨⟨sa, rfl, hsa⟩, rfl⟩
  cases sa with
  | false =>
    go_wp2_with fail
    go_ret
    exact ⟨rfl, hb1⟩
  | true =>
  have ha := hsa rfl
  clear hsa
  go_wp2_with fail
  refine (HVE.out w1 (HI.out.below hb1 (Nat.le_refl _))).mono ?_; rintro e w2 ⟨rfl, hb2⟩
  have hb2 := below_trans hb1 hb2
  clear hb1
  by_cases hn : valsErr kind a = .nil
  · obtain rfl := HCP.out.1 hn
    have HN := Lib.hid hn
    clear hn
    go_wp2_with (first
      | (refine wpList_alloc_row rfl 38 rfl jf _ _ hjf hzf rfl ?_)
      | (refine wpList_store_new rfl rfl 38 _ _ rfl rfl _ #[.int .i64 0, .int .i64 p] rfl (by kernel_rfl) rfl (by simp [Value.oneCell']) ?_))
    have hb3 : Below w.heap.size w (w2.alloc (.cells #[.int .i64 0, .int .i64 p] 38)) := hb2.alloc hb2.size _
    have hcl := heap_alloc_new w2 (.cells #[.int .i64 0, .int .i64 p] 38)
    generalize hpb : w2.heap.size = pb at *
    generalize w2.alloc (.cells #[.int .i64 0, .int .i64 p] 38) = w3 at *
    have Hcl := Lib.hid hcl
    clear hb2 hpb hcl
    refine (HVa.out ha _ (HI.out.below hb3 (Nat.le_refl _))).mono ?_; rintro e w4 ⟨⟨x, rfl, hx⟩, hb4⟩
    have hcl4 := (hb4.block pb (Array.getElem?_eq_some_iff.1 Hcl.out).1).trans Hcl.out
    have hb4 := below_trans hb3 hb4
    have Hx := Lib.hid hx
    have Hcl4 := Lib.hid hcl4
    clear hb3 hx Hcl hcl4
    go_wp2_with fail
    refine (HPo.out HN.out ha x w4 ((HE.out.below hb4).errs.sub rfl) Hx.out).mono ?_; rintro e w5 ⟨rfl, hb5⟩
    have hcl5 := (hb5.block pb (Array.getElem?_eq_some_iff.1 Hcl4.out).1).trans Hcl4.out
    have hb5 := below_trans hb4 hb5
    have q0 : w5.cell? ⟨pb, 0, none⟩ = some (.int .i64 0) := by rw [Lib.cell_of_heap hcl5]; rfl
    clear hb4 hcl5
    generalize bestB kind a = pl at *
    go_wp2_with fail
    refine (HPO.out HN.out ha w5 (HI.out.below hb5 (Nat.le_refl _))).mono ?_; rintro e w6 ⟨rfl, hb6⟩
    go_wp2_with fail
    go_ret
    exact ⟨ret_of (by simp), below_trans hb5 hb6⟩
  · have hc := HCP.out.2 hn
    have HN := Lib.hid hn
    clear hn
    go_wp2_with (first
      | (refine wpList_alloc_row rfl 38 rfl jf _ _ hjf hzf rfl ?_)
      | (refine wpList_store_new rfl rfl 38 _ _ rfl rfl _ #[.int .i64 c, .int .i64 p] rfl (by kernel_rfl) rfl (by simp [Value.oneCell']) ?_))
    have hb3 : Below w.heap.size w (w2.alloc (.cells #[.int .i64 c, .int .i64 p] 38)) := hb2.alloc hb2.size _
    have hcl := heap_alloc_new w2 (.cells #[.int .i64 c, .int .i64 p] 38)
    generalize hpb : w2.heap.size = pb at *
    generalize w2.alloc (.cells #[.int .i64 c, .int .i64 p] 38) = w3 at *
    have Hcl := Lib.hid hcl
    clear hb2 hpb hcl
    refine (HVa.out ha _ (HI.out.below hb3 (Nat.le_refl _))).mono ?_; rintro e w4 ⟨⟨x, rfl, hx⟩, hb4⟩
    have hcl4 := (hb4.block pb (Array.getElem?_eq_some_iff.1 Hcl.out).1).trans Hcl.out
    have hb4 := below_trans hb3 hb4
    have Hx := Lib.hid hx
    have Hcl4 := Lib.hid hcl4
    clear hb3 hx Hcl hcl4
    go_wp2_with fail
    refine (HPe.out HN.out x w4 ((HE.out.below hb4).errs.sub rfl) Hx.out).mono ?_; rintro e w5 ⟨⟨y, rfl, hy⟩, hb5⟩
    have hcl5 := (hb5.block pb (Array.getElem?_eq_some_iff.1 Hcl4.out).1).trans Hcl4.out
    have hb5 := below_trans hb4 hb5
    have q0 : w5.cell? ⟨pb, 0, none⟩ = some (.int .i64 c) := by rw [Lib.cell_of_heap hcl5]; rfl
    have Hcl5 := Lib.hid hcl5; have Hy := Lib.hid hy
    clear hb4 hcl5 hy
    go_wp2_with (refine wpList_load_row rfl 38 _ rfl pb rfl 38 #[.int .i64 c, .int .i64 p] (0, 0) _ Hcl5.out Tryd.underlying38 rfl (by kernel_rfl) ?_)
    refine (HFd.out w5 y (HE.out.below hb5) Hy.out).mono ?_; rintro e w6 ⟨rfl, hb6⟩
    go_wp2_with fail
    go_ret
    exact ⟨ret_of (by simp), below_trans hb5 hb6⟩
end Go.Proofs.YtddefnnimbjnaaaDoor
