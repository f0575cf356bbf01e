/- The walks of wire.Text, wire.ReadText. -/
import Derived.Test.YthilhooomlhfpaaDoorWireW5
namespace Go.Proofs.YthilhooomlhfpaaDoor
open Go Go.RowKit

set_option maxRecDepth 100000 in
set_option maxHeartbeats 400000 in
theorem text_any (s : ByteArray) (w : World) (hs : s.size ≤ 1048576) :
    Calls Tryd.prog 86 #[.string s] w fun e w' => e = .returned (.string ⟨(textOf s.data.toList).toArray⟩) ∧ Below w.heap.size w w' := by
  have hlen := seven_len (n := s.size) (by omega)
  go_enter Tryd.func86, Tryd.ntmps86
  go_wp2_with (go_at_call 54; refine (uvarint_any _ _ (by omega) (by omega)).mono ?_; rintro e w1 ⟨rfl, hb1⟩)
  go_ret
  refine ⟨ret_of ?_, hb1⟩
  show Value.string (_ ++ s) = _
  unfold textOf
  rw [← ByteArray.mk_append_mk]
  simp

def tRet (ev : Value) : Option (List UInt8 × Nat) → Value
  | some (t, k) => .tuple #[.string ⟨t.toArray⟩, .int .i64 (k : Int), .nilIface]
  | none => .tuple #[.string ⟨#[]⟩, .int .i64 0, ev]

set_option maxRecDepth 100000 in
set_option maxHeartbeats 1000000 in
theorem readText_any (s : ByteArray) (T : TypeId) (x : Value) (w : World) (hs : s.size ≤ maxLen) (hev : w.cell? ⟨1, 0, none⟩ = some (.iface T x)) :
    Calls Tryd.prog 70 #[.string s] w fun e w' => e = .returned (tRet (.iface T x) (readT s.data.toList)) ∧ Below w.heap.size w w' := by
  have hlen : s.data.toList.length = s.size := by simp
  have hsz : (1 : Nat) < w.heap.size := block_lt_of_cell hev
  cases hr : readU s.data.toList with
  | none =>
    have hv : readT s.data.toList = none := by simp [readT, hr]
    rw [hv]
    have Hev := Lib.hid hev
    go_enter Tryd.func70, Tryd.ntmps70
    go_wp2_with (go_at_call 90; refine (readUvarint_none s _ _ hs hev hr).mono ?_; rintro e w1 ⟨rfl, hb1⟩)
    go_ret3
    exact ⟨rfl, hb1⟩
  | some y =>
    obtain ⟨n, k⟩ := y
    have hl := readU_lt hr
    by_cases hok : n ≤ 200000 ∧ k + n ≤ s.data.toList.length
    · have hv : readT s.data.toList = some ((s.data.toList.drop k).take n, k + n) := by simp only [readT, hr]; rw [if_pos hok]
      rw [hv]
      obtain ⟨ok1, ok2⟩ := hok
      go_enter Tryd.func70, Tryd.ntmps70
      go_wp2_with (go_at_call 90; refine (readUvarint_some s _ _ hs hev hr).mono ?_; rintro e w1 ⟨rfl, hb1⟩)
      go_ret3
      refine ⟨ret_of ?_, hb1⟩
      show Value.tuple #[.string (s.extract k (k + n)), .int .i64 ((k : Int) + (n : Int)), .nilIface] = _
      rw [ba_extract, Nat.add_sub_cancel_left]
      rfl
    · have hv : readT s.data.toList = none := by simp only [readT, hr]; rw [if_neg hok]
      rw [hv]
      by_cases h1 : n ≤ 200000
      · have h2 : s.size < k + n := by omega
        clear hok hv
        go_enter Tryd.func70, Tryd.ntmps70
        go_wp2_with (go_at_call 90; refine (readUvarint_some s _ _ hs hev hr).mono ?_; rintro e w1 ⟨rfl, hb1⟩; have hev1 := ((bcell hb1).1 1 0 hsz).trans hev)
        go_quiet (fail)
        go_wp2
        go_ret3
        exact ⟨rfl, below_drewN hb1 _⟩
      · have b1 : decide (200000 < (n : Int)) = true := by simp; omega
        clear hok hv
        go_enter Tryd.func70, Tryd.ntmps70
        go_wp2_with (go_at_call 90; refine (readUvarint_some s _ _ hs hev hr).mono ?_; rintro e w1 ⟨rfl, hb1⟩; have hev1 := ((bcell hb1).1 1 0 hsz).trans hev)
        go_quiet (fail)
        go_wp2
        go_ret3
        exact ⟨rfl, below_drewN hb1 _⟩
theorem readText_some (s : ByteArray) (T : TypeId) (x : Value) (w : World) (hs : s.size ≤ maxLen) (hev : w.cell? ⟨1, 0, none⟩ = some (.iface T x)) {t : List UInt8} {k : Nat} (h : readT s.data.toList = some (t, k)) :
    Calls Tryd.prog 70 #[.string s] w fun e w' => e = .returned (.tuple #[.string ⟨t.toArray⟩, .int .i64 (k : Int), .nilIface]) ∧ Below w.heap.size w w' :=
  (readText_any s T x w hs hev).mono fun _ _ ⟨h1, h2⟩ => ⟨by rw [h1, h]; rfl, h2⟩
theorem readText_none (s : ByteArray) (T : TypeId) (x : Value) (w : World) (hs : s.size ≤ maxLen) (hev : w.cell? ⟨1, 0, none⟩ = some (.iface T x)) (h : readT s.data.toList = none) :
    Calls Tryd.prog 70 #[.string s] w fun e w' => e = .returned (.tuple #[.string ⟨#[]⟩, .int .i64 0, .iface T x]) ∧ Below w.heap.size w w' :=
  (readText_any s T x w hs hev).mono fun _ _ ⟨h1, h2⟩ => ⟨by rw [h1, h]; rfl, h2⟩
theorem readVarint_some (s : ByteArray) (ev : Value) (w : World) (hs : s.size ≤ maxLen) (hev : w.cell? ⟨1, 0, none⟩ = some ev) {n : Int} {k : Nat} (h : readV s.data.toList = some (n, k)) :
    Calls Tryd.prog 139 #[.string s] w fun e w' => e = .returned (.tuple #[.int .i64 n, .int .i64 (k : Int), .nilIface]) ∧ Below w.heap.size w w' :=
  (readVarint_any s ev w hs hev).mono fun _ _ ⟨h1, h2⟩ => ⟨by rw [h1, h]; rfl, h2⟩
theorem readVarint_none (s : ByteArray) (ev : Value) (w : World) (hs : s.size ≤ maxLen) (hev : w.cell? ⟨1, 0, none⟩ = some ev) (h : readV s.data.toList = none) :
    Calls Tryd.prog 139 #[.string s] w fun e w' => e = .returned (.tuple #[.int .i64 0, .int .i64 0, ev]) ∧ Below w.heap.size w w' :=
  (readVarint_any s ev w hs hev).mono fun _ _ ⟨h1, h2⟩ => ⟨by rw [h1, h]; rfl, h2⟩
end Go.Proofs.YthilhooomlhfpaaDoor
