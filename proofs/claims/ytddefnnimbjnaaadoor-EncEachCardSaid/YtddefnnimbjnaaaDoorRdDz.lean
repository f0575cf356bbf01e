/- The walk of enc.ReadDelta where it reads no number. -/
import Derived.Test.YtddefnnimbjnaaaDoorRdD
namespace Go.Proofs.YtddefnnimbjnaaaDoor
set_option linter.unusedVariables false
open Go Go.RowKit Go.ChangeShapes

set_option maxRecDepth 100000 in
set_option maxHeartbeats 1000000 in
theorem readDelta_kind (kind n : Int) (s : ByteArray) (w : World) (adr : Nat → Addr) (hE : ErrsAt w adr [2, 4]) (h2 : kind ≠ 2) (h3 : kind ≠ 3) :
    Calls Tryd.prog 30 #[.int .i64 kind, .string s, .int .i64 n] w fun e w' => e = .returned (.tuple #[.slice none 0 0, .iface 173 (.pointer (some (adr 4)))]) ∧ Below w.heap.size w w' := by
  have e4 := hE.cell 4 (by decide)
  unfold gErr at e4
  have d2 : (kind != 2) = true := by simpa using h2
  have d3 : (kind != 3) = true := by simpa using h3
  clear hE h2 h3
  go_enter Tryd.func30, Tryd.ntmps30
  go_wp2_with fail
  go_quiet (fail)
  go_wp2_with fail
  go_ret2
  exact ⟨rfl, below_drewN (Below.refl _ _) _⟩

set_option maxRecDepth 100000 in
set_option maxHeartbeats 1000000 in
theorem readDelta_err (kind : Int) (hk : kind = 2 ∨ kind = 3) (n : Int) (s : ByteArray) (w : World) (adr : Nat → Addr) (hE : ErrsAt w adr [2, 4]) (h : n < 0 ∨ 20000 < n) :
    Calls Tryd.prog 30 #[.int .i64 kind, .string s, .int .i64 n] w fun e w' => (∃ u, e = .returned (.tuple #[.slice none 0 0, u]) ∧ IsErr w' adr (manyErr kind n) u) ∧ w' = w := by
  have HC := Lib.hid (known_any kind n w adr hE)
  have HN := Lib.hid (show manyErr kind n ≠ .nil by
    unfold manyErr
    rw [if_neg (by omega), if_pos h]
    simp)
  clear hE h
  rcases hk with rfl | rfl
  all_goals
    go_enter Tryd.func30, Tryd.ntmps30
    go_wp2_with fail
    refine HC.out.mono ?_; rintro e w1 ⟨⟨u, rfl, hu⟩, rfl⟩
    have HU := Lib.hid hu
    obtain ⟨T, a, rfl, hT⟩ := hu.some' HN.out
    clear hu
    rcases hT with rfl | rfl
    all_goals
      go_wp2_with fail
      go_ret2
      exact ⟨⟨_, rfl, HU.out⟩, rfl⟩

set_option maxRecDepth 100000 in
set_option maxHeartbeats 2000000 in
theorem readDelta_zero (kind : Int) (hk : kind = 2 ∨ kind = 3) (s : ByteArray) (T : TypeId) (x : Value) (w : World) (hev : w.cell? ⟨1, 0, none⟩ = some (.iface T x)) :
    Calls Tryd.prog 30 #[.int .i64 kind, .string s, .int .i64 0] w fun e w' => RdRet (.iface T x) w.heap.size (readD kind s.data.toList 0) e w' ∧ Below w.heap.size w w' := by
  have HK := Lib.hid (known_ok kind 0 w (by omega) (by omega) (by omega) (by omega))
  have hbw : Below w.heap.size w ((w.alloc (.cells #[.string s] 9)).alloc (.cells #[.int .i64 0] 2)) := ((Below.refl _ _).alloc (Nat.le_refl _) _).alloc (by simp) _
  have hev2 := (hbw.cell (p := ⟨1, 0, none⟩) (block_lt_of_cell hev)).trans hev
  have Hbw := Lib.hid hbw; have Hev2 := Lib.hid hev2
  have hA : dAll s.data.toList 0 = some [] := rfl
  have HD := Lib.hid (fun w1 => delta_nil kind hk (.slice none 0 0) w1 (.inl ⟨rfl, none, 0, rfl⟩))
  clear hbw hev2 hev
  by_cases h0 : s.size = 0
  · obtain rfl := empty_list h0
    have HR := Lib.hid (show readD kind (⟨#[]⟩ : ByteArray).data.toList 0 = some [] from rfl)
    clear h0 hA
    rcases hk with rfl | rfl
    all_goals
      go_enter Tryd.func30, Tryd.ntmps30
      go_wp2_with fail
      refine HK.out.mono ?_; rintro e w1 ⟨rfl, hw1⟩
      subst hw1
      go_wp2_with fail
      generalize (w1.alloc (.cells #[.string ⟨#[]⟩] 9)).alloc (.cells #[.int .i64 0] 2) = W2 at *
      go_loopw [9] (fun u wr => u = .slice none 0 0 ∧ wr = W2) (fun u _ => 0)
      case atStart => exact ⟨rfl, rfl⟩
      case round =>
        obtain ⟨rfl, rfl⟩ := hrel
        go_wp2_with fail
        refine (HD.out _).mono ?_; rintro e w5 ⟨rfl, hb5⟩
        have Hb5 := Lib.hid (Hbw.out.trans (hb5.mono Hbw.out.size))
        clear hb5
        go_wp2_with fail
        go_ret2
        exact ⟨RdRet.good HR.out (World.ownsRow_nil _ _ _ _), Hb5.out⟩
  · have hne : ¬ s.toList = [] := by
      intro e
      rw [ByteArray.toList_eq] at e
      exact h0 (by rw [← size_data, e]; rfl)
    have hie : s.toList.isEmpty = false := by rw [empty_beq', decide_eq_false_iff_not]; exact h0
    have hbq : (([] : List UInt8) == s.toList) = false := by rw [beq_eq_false_iff_ne]; exact fun e => hne e.symm
    have HR := Lib.hid (show readD kind s.data.toList 0 = none by
      unfold readD
      rw [hA]
      simp only []
      rw [if_neg]
      intro hh
      rw [Bool.and_eq_true, decide_eq_true_eq] at hh
      exact hne (by rw [ByteArray.toList_eq]; exact hh.2.symm))
    clear h0 hA
    rcases hk with rfl | rfl
    all_goals
      go_enter Tryd.func30, Tryd.ntmps30
      go_wp2_with fail
      refine HK.out.mono ?_; rintro e w1 ⟨rfl, hw1⟩
      subst hw1
      go_wp2_with fail
      generalize (w1.alloc (.cells #[.string s] 9)).alloc (.cells #[.int .i64 0] 2) = W2 at *
      go_loopw [9] (fun u wr => u = .slice none 0 0 ∧ wr = W2) (fun u _ => 0)
      case atStart => exact ⟨rfl, rfl⟩
      case round =>
        obtain ⟨rfl, rfl⟩ := hrel
        go_wp2_with fail
        refine (HD.out _).mono ?_; rintro e w5 ⟨rfl, hb5⟩
        have hev5 := (hb5.cell (p := ⟨1, 0, none⟩) (block_lt_of_cell Hev2.out)).trans Hev2.out
        have Hb5 := Lib.hid (Hbw.out.trans (hb5.mono Hbw.out.size))
        clear hb5
        go_wp2_with fail
        go_quiet (fail)
        go_wp2_with fail
        go_ret2
        exact ⟨RdRet.bad HR.out, below_drewN Hb5.out _⟩
end Go.Proofs.YtddefnnimbjnaaaDoor
