/- The walk of the statement WireTwice. -/
import Derived.Test.YtehklkmnbhgebaaDoorWireW6
import Derived.Test.YtehklkmnbhgebaaDoorErrs
namespace Go.Proofs.YtehklkmnbhgebaaDoor
open Go Go.RowKit

theorem mk_size (l : List UInt8) : (ByteArray.mk l.toArray).size = l.length := by show l.toArray.size = _; simp
theorem app_list (l : List UInt8) (s : ByteArray) : ((ByteArray.mk l.toArray) ++ s).data.toList = l ++ s.data.toList := by simp
theorem app_size (l : List UInt8) (s : ByteArray) : ((ByteArray.mk l.toArray) ++ s).size = l.length + s.size := by rw [ByteArray.size_append, mk_size]

set_option maxRecDepth 100000 in
set_option maxHeartbeats 2000000 in
theorem twice_main (u : Int) (u0 : 0 ≤ u) (u1 : u < 18446744073709551616) (n : Int) (n0 : -9223372036854775808 ≤ n) (n1 : n < 9223372036854775808) (a b : ByteArray) (ha : a.size ≤ 2000) (hb : b.size ≤ 1000) (w : World)
    (T : TypeId) (x : Value) (hev : w.cell? ⟨0, 0, none⟩ = some (.iface T x)) :
    Calls Tryd.prog 3 #[.int .u64 u, .int .i64 n, .string a, .string b] w fun e w' => e = .returned (.bool true) ∧ Below w.heap.size w w' := by
  have d1 : decide ((2000 : Int) < (a.size : Int)) = false := by simp; omega
  have d2 : decide ((1000 : Int) < (b.size : Int)) = false := by simp; omega
  have hz := zig_lt n0 n1
  have l1 := seven_len (n := u.toNat) (by omega)
  have l2 := seven_len (n := zig n) hz
  have l3 : (textOf a.data.toList).length ≤ 2010 := by
    have := seven_len (n := a.data.toList.length) (by simp; omega)
    simp only [textOf, List.length_append]
    simp at this ⊢; omega
  have r1 := readU_seven u.toNat (by omega) b.data.toList
  have r2 : readV (seven (zig n) ++ b.data.toList) = some (n, (seven (zig n)).length) := by
    simp [readV, readU_seven (zig n) hz b.data.toList, unzig_zig]
  have r3 := readT_text a.data.toList b.data.toList (by simp; omega)
  have hsz : (0 : Nat) < w.heap.size := block_lt_of_cell hev
  have R1 := Lib.hid r1; have R2 := Lib.hid r2; have R3 := Lib.hid r3; have Hev := Lib.hid hev
  clear r1 r2 r3 hev
  have huu : ((u.toNat : Nat) : Int) = u := by omega
  go_enter Tryd.func3, Tryd.ntmps3
  go_wp2_with fail
  refine (three_any _).mono ?_; rintro e w1 ⟨rfl, hb1⟩
  go_wp2_with fail
  refine (uvarint_any _ _ u0 u1).mono ?_; rintro e w2 ⟨rfl, hb2⟩
  go_wp2_with fail
  have c2 : Below w.heap.size w w2 := below_trans hb1 hb2
  refine (readUvarint_some _ _ _ (by rw [app_size]; unfold maxLen; omega) (((bcell c2).1 _ 0 hsz).trans Hev.out) (by rw [app_list]; exact R1.out)).mono ?_; rintro e w3 ⟨rfl, hb3⟩
  have c3 : Below w.heap.size w w3 := below_trans c2 hb3
  clear hb1 hb2 hb3 c2
  go_wp2_with fail
  refine (varint_any _ _ n0 n1).mono ?_; rintro e w4 ⟨rfl, hb4⟩
  have c4 : Below w.heap.size w w4 := below_trans c3 hb4
  go_wp2_with fail
  refine (readVarint_some _ _ _ (by rw [app_size]; unfold maxLen; omega) (((bcell c4).1 _ 0 hsz).trans Hev.out) (by rw [app_list]; exact R2.out)).mono ?_; rintro e w5 ⟨rfl, hb5⟩
  have c5 : Below w.heap.size w w5 := below_trans c4 hb5
  clear c3 c4 hb4 hb5
  go_wp2_with fail
  refine (text_any _ _ (by omega)).mono ?_; rintro e w6 ⟨rfl, hb6⟩
  have c6 : Below w.heap.size w w6 := below_trans c5 hb6
  go_wp2_with fail
  refine (readText_some _ _ _ _ (by rw [app_size]; unfold maxLen; omega) (((bcell c6).1 _ 0 hsz).trans Hev.out) (by rw [app_list]; exact R3.out)).mono ?_; rintro e w7 ⟨rfl, hb7⟩
  have c7 : Below w.heap.size w w7 := below_trans c6 hb7
  go_wp2_with fail
  go_ret
  exact ⟨rfl, c7⟩

set_option maxRecDepth 100000 in
set_option maxHeartbeats 1000000 in
theorem twice_early (u n : Int) (a b : ByteArray) (h : 2000 < a.size ∨ 1000 < b.size) (w : World) :
    Calls Tryd.prog 3 #[.int .u64 u, .int .i64 n, .string a, .string b] w fun e w' => e = .returned (.bool true) ∧ Below w.heap.size w w' := by
  by_cases h1 : 2000 < a.size
  · have d1 : decide ((2000 : Int) < (a.size : Int)) = true := by simp; omega
    clear h
    go_enter Tryd.func3, Tryd.ntmps3
    go_wp2_with fail
    refine (three_any _).mono ?_; rintro e w1 ⟨rfl, hb1⟩
    go_wp2_with fail
    go_ret
    exact ⟨rfl, hb1⟩
  · have d1 : decide ((2000 : Int) < (a.size : Int)) = false := by simp; omega
    have d2 : decide ((1000 : Int) < (b.size : Int)) = true := by simp; omega
    clear h h1
    go_enter Tryd.func3, Tryd.ntmps3
    go_wp2_with fail
    refine (three_any _).mono ?_; rintro e w1 ⟨rfl, hb1⟩
    go_wp2_with fail
    go_ret
    exact ⟨rfl, hb1⟩

theorem wireTwice_law (u : Int) (u0 : 0 ≤ u) (u1 : u < 18446744073709551616) (n : Int) (n0 : -9223372036854775808 ≤ n) (n1 : n < 9223372036854775808) (a : ByteArray) (_ha : a.size ≤ maxLen) (b : ByteArray) (_hb : b.size ≤ maxLen) (w : World)
    (hL : laidMetH Tryd.prog Rows.wireTwiceRow.laid w) :
    Calls Tryd.prog 3 #[.int .u64 u, .int .i64 n, .string a, .string b] w fun e w' => e = .returned (.bool true) ∧ Below w.heap.size w w' := by
  by_cases h : 2000 < a.size ∨ 1000 < b.size
  · exact twice_early u n a b h w
  · have hl : laidMet Tryd.prog Rows.wireTwiceRow.laid w := hL
    obtain ⟨ads, hs, _⟩ := sents_of_laid [("shredcol/api.ErrText", [115, 104, 114, 101, 100, 99, 111, 108, 58, 32, 116, 101, 120, 116], 0)] (fun x hx => by
      obtain rfl := List.mem_singleton.1 hx
      exact ⟨by kernel_rfl, by kernel_rfl⟩) hl
    match ads, hs with
    | [a1], hs => exact twice_main u u0 u1 n n0 n1 a b (by omega) (by omega) w _ _ hs.1
end Go.Proofs.YtehklkmnbhgebaaDoor
