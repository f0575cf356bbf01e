/- The walks of the document's Long, ReadLong. -/
import Derived.Test.YtddefnnimbjnaaaDoorWireW7
namespace Go.Proofs.YtddefnnimbjnaaaDoor
open Go Go.RowKit

set_option maxRecDepth 100000 in
set_option maxHeartbeats 400000 in
theorem long_any (s : ByteArray) (w : World) (hs : s.size ≤ 1048576) :
    Calls Tryd.prog 49 #[.string s] w fun e w' => e = .returned (.string ⟨(textOf s.data.toList).toArray⟩) ∧ Below w.heap.size w w' := by
  have hlen := seven_len (n := s.size) (by omega)
  go_enter Tryd.func49, Tryd.ntmps49
  go_wp2_with (go_at_call 55; refine (sevenOf_any _ _ (by omega) (by omega)).mono ?_; rintro e w1 ⟨rfl, hb1⟩)
  go_ret
  refine ⟨ret_of ?_, hb1⟩
  show Value.string (_ ++ s) = _
  unfold textOf
  rw [← ByteArray.mk_append_mk]
  simp

theorem readT_cases {s : List UInt8} {t : List UInt8} {k : Nat} (h : readT s = some (t, k)) : ∃ n u, readU s = some (n, u) ∧ n ≤ 200000 ∧ u + n ≤ s.length ∧ t = (s.drop u).take n ∧ k = u + n := by
  unfold readT at h
  cases hr : readU s with
  | none => simp [hr] at h
  | some x =>
    obtain ⟨n, u⟩ := x
    rw [hr] at h
    simp only at h
    split at h
    · rename_i hc
      simp only [Option.some.injEq, Prod.mk.injEq] at h
      exact ⟨n, u, rfl, hc.1, hc.2, h.1.symm, h.2.symm⟩
    · cases h
theorem readT_none {s : List UInt8} (h : readT s = none) : readU s = none ∨ ∃ n u, readU s = some (n, u) ∧ (200000 < n ∨ s.length < u + n) := by
  unfold readT at h
  cases hr : readU s with
  | none => exact .inl rfl
  | some x =>
    obtain ⟨n, u⟩ := x
    rw [hr] at h
    simp only at h
    split at h
    · cases h
    · exact .inr ⟨n, u, rfl, by omega⟩

set_option maxRecDepth 100000 in
set_option maxHeartbeats 1000000 in
theorem readLong_some (s : ByteArray) (w : World) (hs : s.size ≤ maxLen) {t : List UInt8} {k : Nat} (h : readT s.data.toList = some (t, k)) :
    Calls Tryd.prog 85 #[.string s] w fun e w' => e = .returned (.tuple #[.string ⟨t.toArray⟩, .int .i64 (k : Int)]) ∧ w' = w := by
  obtain ⟨n, u, hr, h1, h2, rfl, rfl⟩ := readT_cases h
  have hl := readU_lt hr
  have hlen : s.data.toList.length = s.size := by simp
  have b0 : ((u : Int) == 0) = false := by simp; omega
  have hm : s.size ≤ maxLen := hs
  unfold maxLen at hs
  go_enter Tryd.func85, Tryd.ntmps85
  go_wp2_with fail
  refine (readSeven_some s _ hm hr).mono ?_; rintro e w1 ⟨rfl, rfl⟩
  go_wp2_with fail
  go_ret2
  refine ⟨ret_of ?_, rfl⟩
  show Value.tuple #[.string (s.extract u (u + n)), .int .i64 ((u : Int) + (n : Int))] = _
  rw [ba_extract, Nat.add_sub_cancel_left]
  rfl

set_option maxRecDepth 100000 in
set_option maxHeartbeats 1000000 in
theorem readLong_none (s : ByteArray) (w : World) (hs : s.size ≤ maxLen) (h : readT s.data.toList = none) :
    Calls Tryd.prog 85 #[.string s] w fun e w' => e = .returned (.tuple #[.string ⟨#[]⟩, .int .i64 0]) ∧ w' = w := by
  have hlen : s.data.toList.length = s.size := by simp
  have hm : s.size ≤ maxLen := hs
  unfold maxLen at hs
  rcases readT_none h with hr | ⟨n, u, hr, h1⟩
  · clear h
    go_enter Tryd.func85, Tryd.ntmps85
    go_wp2_with fail
    refine (readSeven_none s _ hm hr).mono ?_; rintro e w1 ⟨rfl, rfl⟩
    go_wp2_with fail
    go_ret2
    exact ⟨rfl, rfl⟩
  · have hl := readU_lt hr
    have b0 : ((u : Int) == 0) = false := by simp; omega
    clear h
    by_cases hn : 200000 < n
    · have b1 : decide (200000 < (n : Int)) = true := by simp; omega
      clear h1 hn
      go_enter Tryd.func85, Tryd.ntmps85
      go_wp2_with fail
      refine (readSeven_some s _ hm hr).mono ?_; rintro e w1 ⟨rfl, rfl⟩
      go_wp2_with fail
      go_ret2
      exact ⟨rfl, rfl⟩
    · have b1 : decide (200000 < (n : Int)) = false := by simp; omega
      have h2 : s.size < u + n := by omega
      have h3 : n ≤ 200000 := by omega
      clear h1 hn
      go_enter Tryd.func85, Tryd.ntmps85
      go_wp2_with fail
      refine (readSeven_some s _ hm hr).mono ?_; rintro e w1 ⟨rfl, rfl⟩
      go_wp2_with fail
      go_ret2
      exact ⟨rfl, rfl⟩
end Go.Proofs.YtddefnnimbjnaaaDoor
