/- The walk of the closed fact line. -/
import Derived.Test.YtfmdahfolnljkaaDoorTa4
import Derived.Test.YtfmdahfolnljkaaDoorRegE
import Derived.Test.YtfmdahfolnljkaaDoorSameN
namespace Go.Proofs.YtfmdahfolnljkaaDoor
set_option linter.unusedVariables false
set_option linter.unusedSimpArgs false
open Go Go.RowKit Go.ChangeShapes

def lineS : Nd := .mk 1 ⟨#[97]⟩ 1 1 []
def lineN : Nd := .mk 0 rootName 1 0 [lineS]
theorem line_valid : validE lineN = 0 := by decide +kernel
theorem line_rows : (List.range (lsL lineN.sub []).length).map (rowB (lsL lineN.sub [])) = [[1]] := by decide +kernel
theorem line_ok : ∀ x ∈ nodes lineN, x.Ok1 := by
  intro x hx
  have h : x = lineN ∨ x = lineS := by
    rw [nodes_eq] at hx
    simp [lineN, lineS, Nd.sub, nodesL, nodes] at hx
    exact hx
  rcases h with rfl | rfl
  · exact ⟨by decide, by decide, by decide, by decide, by decide, by decide, by decide, by decide⟩
  · exact ⟨by decide, by decide, by decide, by decide, by decide, by decide, by decide, by decide⟩

set_option maxRecDepth 100000 in
set_option maxHeartbeats 8000000 in
theorem line_any (w : World) (adr : Nat → Addr) (hE : ErrsAt w adr [2, 3, 5]) :
    Calls Tryd.prog 5 #[] w fun e w' => e = .returned (.bool true) ∧ Below w.heap.size w w' := by
  have HE := Lib.hid hE
  clear hE
  go_enter Tryd.func5, Tryd.ntmps5
  go_upto_region 2 with fail
  have hb0 := rows2 (w := w) (A := .cells #[.int .i64 1, .string ⟨#[97]⟩, .int .i64 1, .int .i64 1, .slice none 0 0] 24) (B := .cells #[.int .i64 0, .string ⟨#[114, 111, 111, 116]⟩, .int .i64 1, .int .i64 0, .slice (some ⟨w.heap.size, 0, none⟩) 1 1] 24) (Below.refl _ _)
  generalize ((w.alloc (.cells #[.int .i64 1, .string ⟨#[97]⟩, .int .i64 1, .int .i64 1, .slice none 0 0] 24)).alloc (.cells #[.int .i64 0, .string ⟨#[114, 111, 111, 116]⟩, .int .i64 1, .int .i64 0, .slice (some ⟨w.heap.size, 0, none⟩) 1 1] 24)) = w1 at *
  obtain ⟨rA, rB, hbw, hz⟩ := hb0
  have hnd : IsNds (· < w1.heap.size) w1 (.slice (some ⟨w.heap.size, 0, none⟩) 1 1) lineN.sub := by
    refine .row w.heap.size 0 1 [lineS] (fun _ => .slice none 0 0) (by show w.heap.size < w1.heap.size; omega) (by omega) (fun j x hj => ?_) (fun j x hj => ?_)
    · match j, hj with
      | 0, hj =>
        obtain rfl : lineS = x := by simpa using hj
        intro k u hk
        simp only [Nat.zero_mul, Nat.zero_add]
        rw [rowc rA k]; exact hk
      | j + 1, hj => simp at hj
    · match j, hj with
      | 0, hj =>
        obtain rfl : lineS = x := by simpa using hj
        exact .nil _ _
      | j + 1, hj => simp at hj
  have HBD := Lib.hid (build_any lineN (.slice (some ⟨w.heap.size, 0, none⟩) 1 1) w1 adr (HE.out.below hbw) hnd line_ok)
  have HW := Lib.hid hbw; have RB := Lib.hid rB
  have cB := rowc rB
  clear rA rB hbw hnd hz
  unfold ndA lineN Nd.id Nd.name Nd.rep Nd.kind rootName at HBD
  simp only at HBD
  go_wp2_with fail
  refine HBD.out.mono ?_; rintro e w2 ⟨v, LN, rfl, hlr, hlm, hb2⟩
  have hv0 : validE (.mk 0 ⟨#[114, 111, 111, 116]⟩ 1 0 [lineS]) = 0 := line_valid
  have hr0 : (List.range (lsL (Nd.sub (.mk 0 ⟨#[114, 111, 111, 116]⟩ 1 0 [lineS])) []).length).map (rowB (lsL (Nd.sub (.mk 0 ⟨#[114, 111, 111, 116]⟩ 1 0 [lineS])) [])) = [[1]] := line_rows
  rw [hv0, if_pos rfl, hr0] at hlm
  rw [hv0]
  unfold eV
  have HW2 := Lib.hid (HW.out.trans (hb2.mono HW.out.size))
  obtain ⟨q, rfl⟩ : ∃ q, LN = [q] := by
    match LN, hlm with
    | [q], _ => exact ⟨q, rfl⟩
    | [], h => simp at h
    | _ :: _ :: _, h => simp at h
  have hq1 : q.1 = [1] := by simpa using hlm
  clear hlm hv0 hr0 hb2 cB HBD RB
  obtain ⟨av, cv, rfl⟩ := own_form hlr.1
  have hg3 : ∃ g3, av = some ⟨g3, 0, none⟩ := by
    rcases hlr.1.2 with ⟨h1, h0⟩ | ⟨g, cap, cur, h1, _⟩
    · simp at h0
    · injection h1 with h1; exact ⟨g, h1⟩
  obtain ⟨g3, rfl⟩ := hg3
  have hbm := (Below.refl w2.heap.size w2).alloc (Nat.le_refl _) (.cells #[.slice (some ⟨g3, 0, none⟩) 1 cv] 30)
  obtain ⟨a4, c4, hc4, hi4, -⟩ := rows_get (P := [[1]]) (hlr.below hbm) (by simp [hq1]) (by simp) rfl 0 (by simp)
  simp only [List.getD_cons_zero, List.length_singleton] at hc4 hi4
  have HI4 := Lib.hid hi4.1
  have rM := heap_alloc_new w2 (.cells #[.slice (some ⟨g3, 0, none⟩) 1 cv] 30)
  go_upto_region 3 with fail
  generalize (w2.alloc (.cells #[.slice (some ⟨g3, 0, none⟩) 1 cv] 30)) = w3 at *
  obtain ⟨gm, hgm⟩ : ∃ gm, w2.heap.size = gm := ⟨_, rfl⟩
  have HGM := Lib.hid hgm
  rw [hgm] at rM hbm ⊢
  clear hgm
  have RM := Lib.hid rM
  have cM := rowc rM
  have HBM := Lib.hid (HGM.out ▸ hbm : Below w2.heap.size w2 w3)
  clear rM hbm hlr hi4 hq1
  go_wp2_with fail
  have hbx := (Below.refl w3.heap.size w3).alloc (Nat.le_refl _) (.cells #[.int .i64 1] 3)
  have hlit := World.ownsRow_lit (base := w3.heap.size) (e := 3) (size := 1) w3 #[.int .i64 1] 1 (Nat.le_refl _) (by decide) rfl
  have HBX := Lib.hid (HW2.out.trans (HBM.out.trans (hbx.mono HBM.out.size) |>.mono HW2.out.size))
  refine (sameInts_same _ _ [1] _ (HI4.out.below hbx (Nat.le_refl _)) (IsNums.of_own (K := .i64) (l := [1]) hlit) (by decide)).mono ?_
  rintro e w4 ⟨rfl, hb4⟩
  have HB4 := Lib.hid (HBX.out.trans (hb4.mono HBX.out.size))
  clear hb4 hbx hlit
  go_wp2_with fail
  go_ret
  exact ⟨rfl, HB4.out⟩
end Go.Proofs.YtfmdahfolnljkaaDoor
