/- The walk of the statement WireReads. -/
import Derived.Test.YtehklkmnbhgebaaDoorWireW7
import Derived.Test.YtehklkmnbhgebaaDoorEnv
namespace Go.Proofs.YtehklkmnbhgebaaDoor
open Go Go.RowKit Go.ChangeShapes

set_option maxRecDepth 100000 in
set_option maxHeartbeats 2000000 in
theorem wireReads_law (s : ByteArray) (hs : s.size ≤ maxLen) (w : World) (hL : laidMetH Tryd.prog Rows.wireReadsRow.laid w) :
    Calls Tryd.prog 7 #[.string s] w fun e w' => e = .returned (.bool true) ∧ Below w.heap.size w w' := by
  have hL' : laidMetH Tryd.prog fullLaid w := hL
  obtain ⟨adr, hE⟩ := env_of_laid hL'
  by_cases h2 : 1000 < s.size
  · have d1 : decide ((1000 : Int) < (s.size : Int)) = true := by simp; omega
    clear h2 hs
    go_enter Tryd.func7, Tryd.ntmps7
    go_wp2_with fail
    refine (three_any _).mono ?_; rintro e w1 ⟨rfl, hb1⟩
    go_wp2_with fail
    go_ret
    exact ⟨rfl, hb1⟩
  have d1 : decide ((1000 : Int) < (s.size : Int)) = false := by simp; omega
  cases hr : readU s.data.toList with
  | none =>
    have hv : readV s.data.toList = none := by simp [readV, hr]
    have Hr := Lib.hid hr; have Hv := Lib.hid hv; clear hr hv
    go_enter Tryd.func7, Tryd.ntmps7
    go_wp2_with fail
    refine (three_any _).mono ?_; rintro e w1 ⟨rfl, hb1⟩
    have hE1 := hE.below hb1
    go_wp2_with fail
    refine (readUvarint_none s _ _ hs (hE1.cell 1 (by decide) (by decide)) Hr.out).mono ?_; rintro e w2 ⟨rfl, hb2⟩
    have hE2 := hE1.below hb2
    go_wp2_with fail
    refine (readVarint_none s _ _ hs (hE2.cell 1 (by decide) (by decide)) Hv.out).mono ?_; rintro e w3 ⟨rfl, hb3⟩
    have hE3 := hE2.below hb3
    go_wp2_with fail
    refine (readSeven_none s _ hs Hr.out).mono ?_; rintro e w4 ⟨rfl, rfl⟩
    go_wp2_with fail
    refine (readSigned_none s _ hs Hv.out).mono ?_; rintro e w5 ⟨rfl, rfl⟩
    go_wp2_with fail
    refine (coded_any (e := .sent 1) 1 hE3 ⟨by decide, by decide, rfl⟩).mono ?_; rintro e w6 ⟨rfl, hb6⟩
    have hE6 := hE3.below hb6
    go_wp2_with fail
    refine (coded_any (e := .sent 1) 1 hE6 ⟨by decide, by decide, rfl⟩).mono ?_; rintro e w7 ⟨rfl, hb7⟩
    go_wp2_with fail
    go_ret
    exact ⟨rfl, below_trans (below_trans (below_trans (below_trans hb1 hb2) hb3) hb6) hb7⟩
  | some x =>
    obtain ⟨n, k⟩ := x
    have hv : readV s.data.toList = some (unzig n, k) := by simp [readV, hr]
    have hl := readU_lt hr
    have hk0 : ((k : Int) == 0) = false := by simp; omega
    have Hr := Lib.hid hr; have Hv := Lib.hid hv; clear hr hv hl
    go_enter Tryd.func7, Tryd.ntmps7
    go_wp2_with fail
    refine (three_any _).mono ?_; rintro e w1 ⟨rfl, hb1⟩
    have hE1 := hE.below hb1
    go_wp2_with fail
    refine (readUvarint_some s _ _ hs (hE1.cell 1 (by decide) (by decide)) Hr.out).mono ?_; rintro e w2 ⟨rfl, hb2⟩
    have hE2 := hE1.below hb2
    go_wp2_with fail
    refine (readVarint_some s _ _ hs (hE2.cell 1 (by decide) (by decide)) Hv.out).mono ?_; rintro e w3 ⟨rfl, hb3⟩
    go_wp2_with fail
    refine (readSeven_some s _ hs Hr.out).mono ?_; rintro e w4 ⟨rfl, rfl⟩
    go_wp2_with fail
    refine (readSigned_some s _ hs Hv.out).mono ?_; rintro e w5 ⟨rfl, rfl⟩
    go_wp2_with fail
    go_ret
    exact ⟨rfl, below_trans (below_trans hb1 hb2) hb3⟩
end Go.Proofs.YtehklkmnbhgebaaDoor
