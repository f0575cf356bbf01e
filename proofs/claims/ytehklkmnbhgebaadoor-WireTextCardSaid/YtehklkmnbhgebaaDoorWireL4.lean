/- The walk of the statement WireText. -/
import Derived.Test.YtehklkmnbhgebaaDoorWireW8
import Derived.Test.YtehklkmnbhgebaaDoorEnv
namespace Go.Proofs.YtehklkmnbhgebaaDoor
open Go Go.RowKit Go.ChangeShapes

set_option maxRecDepth 100000 in
set_option maxHeartbeats 2000000 in
theorem wireText_law (a : ByteArray) (ha : a.size ≤ maxLen) (s : ByteArray) (hs : s.size ≤ maxLen) (w : World) (hL : laidMetH Tryd.prog Rows.wireTextRow.laid w) :
    Calls Tryd.prog 9 #[.string a, .string s] w fun e w' => e = .returned (.bool true) ∧ Below w.heap.size w w' := by
  have hL' : laidMetH Tryd.prog fullLaid w := hL
  obtain ⟨adr, hE⟩ := env_of_laid hL'
  by_cases h1 : 2000 < a.size
  · have d1 : decide ((2000 : Int) < (a.size : Int)) = true := by simp; omega
    clear h1 hs ha
    go_enter Tryd.func9, Tryd.ntmps9
    go_wp2_with fail
    refine (three_any _).mono ?_; rintro e w1 ⟨rfl, hb1⟩
    go_wp2_with fail
    go_ret
    exact ⟨rfl, hb1⟩
  have d1 : decide ((2000 : Int) < (a.size : Int)) = false := by simp; omega
  by_cases h2 : 2000 < s.size
  · have d2 : decide ((2000 : Int) < (s.size : Int)) = true := by simp; omega
    clear h2 hs h1 ha
    go_enter Tryd.func9, Tryd.ntmps9
    go_wp2_with fail
    refine (three_any _).mono ?_; rintro e w1 ⟨rfl, hb1⟩
    go_wp2_with fail
    go_ret
    exact ⟨rfl, hb1⟩
  have d2 : decide ((2000 : Int) < (s.size : Int)) = false := by simp; omega
  have ha2 : a.size ≤ 1048576 := by omega
  cases hr : readT s.data.toList with
  | none =>
    have Hr := Lib.hid hr; clear hr
    go_enter Tryd.func9, Tryd.ntmps9
    go_wp2_with fail
    refine (three_any _).mono ?_; rintro e w1 ⟨rfl, hb1⟩
    have hE1 := hE.below hb1
    go_wp2_with fail
    refine (readText_none s _ _ _ hs (hE1.cell 1 (by decide) (by decide)) Hr.out).mono ?_; rintro e w2 ⟨rfl, hb2⟩
    have hE2 := hE1.below hb2
    go_wp2_with fail
    refine (readLong_none s _ hs Hr.out).mono ?_; rintro e w3 ⟨rfl, rfl⟩
    go_wp2_with fail
    refine (text_any a _ ha2).mono ?_; rintro e w4 ⟨rfl, hb4⟩
    have hE4 := hE2.below hb4
    go_wp2_with fail
    refine (long_any a _ ha2).mono ?_; rintro e w5 ⟨rfl, hb5⟩
    have hE5 := hE4.below hb5
    go_wp2_with fail
    refine (coded_any (e := .sent 1) 1 hE5 ⟨by decide, by decide, rfl⟩).mono ?_; rintro e w6 ⟨rfl, hb6⟩
    go_wp2_with fail
    go_ret
    exact ⟨rfl, below_trans (below_trans (below_trans (below_trans hb1 hb2) hb4) hb5) hb6⟩
  | some x =>
    obtain ⟨t, k⟩ := x
    have hk0 : ((k : Int) == 0) = false := by
      obtain ⟨n, u, h3, _, _, _, h4⟩ := readT_cases hr
      have := readU_lt h3
      simp; omega
    have Hr := Lib.hid hr; clear hr
    go_enter Tryd.func9, Tryd.ntmps9
    go_wp2_with fail
    refine (three_any _).mono ?_; rintro e w1 ⟨rfl, hb1⟩
    have hE1 := hE.below hb1
    go_wp2_with fail
    refine (readText_some s _ _ _ hs (hE1.cell 1 (by decide) (by decide)) Hr.out).mono ?_; rintro e w2 ⟨rfl, hb2⟩
    go_wp2_with fail
    refine (readLong_some s _ hs Hr.out).mono ?_; rintro e w3 ⟨rfl, rfl⟩
    go_wp2_with fail
    refine (text_any a _ ha2).mono ?_; rintro e w4 ⟨rfl, hb4⟩
    go_wp2_with fail
    refine (long_any a _ ha2).mono ?_; rintro e w5 ⟨rfl, hb5⟩
    go_wp2_with fail
    go_ret
    exact ⟨rfl, below_trans (below_trans (below_trans hb1 hb2) hb4) hb5⟩
end Go.Proofs.YtehklkmnbhgebaaDoor
