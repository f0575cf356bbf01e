/- The walk of the statement BitsWidth. -/
import Derived.Test.YtddefnnimbjnaaaDoorBitsW2
import Derived.Test.YtddefnnimbjnaaaDoorShelf
import Derived.Test.YtddefnnimbjnaaaDoorRows
namespace Go.Proofs.YtddefnnimbjnaaaDoor
open Go Go.RowKit Go.ChangeShapes

theorem ints_lit {w : World} {l : List Int} {cs : Array Value} {e : TypeId} (h : cs = (l.map fun x => Value.int .i64 x).toArray) : IsInts (w.alloc (.cells cs e)) (.slice (some ⟨w.heap.size, 0, none⟩) l.length l.length) l := by
  subst h
  refine .inr ⟨_, _, _, rfl, by simp, fun j x hj => ?_⟩
  rw [World.cell?_alloc_at _ _ _ _ rfl]
  simp [hj]


theorem bits_Len_n (x : Int) (w : World) (h0 : 0 ≤ x) (h1 : x ≤ 18446744073709551615) :
    Calls Tryd.prog 95 #[.int .u64 x] w fun e w' => e = .returned (.int .i64 (Lib.bitLen x.toNat)) ∧ w' = w := Tryd.bits_Len x w h0 h1
theorem bitLenAux_le : ∀ f x, Lib.bitLenAux f x ≤ f
  | 0, x => Nat.le_refl _
  | f + 1, x => by
    have := bitLenAux_le f (x / 2)
    rw [Lib.bitLenAux]; split <;> omega
theorem bitLen_le (x : Nat) : Lib.bitLen x ≤ 64 := bitLenAux_le 64 x

set_option maxRecDepth 100000 in
set_option maxHeartbeats 1000000 in
theorem width_any (x : Int) (h0 : -9223372036854775808 ≤ x) (h1 : x < 9223372036854775808) (w : World) :
    Calls Tryd.prog 72 #[.int .i64 x] w fun e w' => e = .returned (.int .i64 (Lib.bitLen x.toNat)) ∧ w' = w := by
  go_enter Tryd.func72, Tryd.ntmps72
  go_wp2_with fail
  refine (bits_Len_n (max 0 x) w (by omega) (by omega)).mono ?_
  rintro e w1 ⟨rfl, rfl⟩
  go_wp2_with fail
  go_ret
  rw [show (max 0 x).toNat = x.toNat by omega]
  exact ⟨rfl, rfl⟩

set_option maxRecDepth 100000 in
set_option maxHeartbeats 1000000 in
theorem widthOf_any (x : Nat) (h1 : x < 18446744073709551616) (w : World) :
    Calls Tryd.prog 68 #[.int .u64 (x : Nat)] w fun e w' => e = .returned (.int .i64 (Lib.bitLen x)) ∧ w' = w := by
  have hl := bitLen_le x
  go_enter Tryd.func68, Tryd.ntmps68
  go_wp2_with fail
  go_loop [0, 3] (fun m c => ∃ k t : Nat, m = .int .u64 (k : Nat) ∧ c = .int .i64 (t : Nat) ∧ k < 18446744073709551616 ∧ Lib.bitLen x = Lib.bitLen k + t) (fun m _ => (intOf m).toNat)
  case atStart => exact ⟨x, 0, rfl, rfl, h1, rfl⟩
  case round =>
    obtain ⟨k, t, rfl, rfl, hk, hs⟩ := hrel
    have ht : t ≤ 64 := by omega
    by_cases h0 : 0 < k
    · have hh := Lib.bitLen_half k (by omega) (by omega)
      have Hs := Lib.hid hs; have Hh := Lib.hid hh; clear hs hh hl
      go_wp2
      go_round
      case rel => exact ⟨k / 2, t + 1, by go_num, by go_num, by omega, by rw [Hs.out, Hh.out]; omega⟩
      case measure => simp [intOf]; omega
    · obtain rfl : k = 0 := by omega
      have hz : Lib.bitLen 0 = 0 := rfl
      rw [hz, Nat.zero_add] at hs
      rw [hs]
      go_wp2
      go_ret
      exact ⟨rfl, rfl⟩

theorem widthOf_int (x : Int) (h0 : 0 ≤ x) (h1 : x < 18446744073709551616) (w : World) :
    Calls Tryd.prog 68 #[.int .u64 x] w fun e w' => e = .returned (.int .i64 (Lib.bitLen x.toNat)) ∧ w' = w := by
  obtain ⟨n, rfl⟩ := Int.eq_ofNat_of_zero_le h0
  exact widthOf_any n (by omega) w

end Go.Proofs.YtddefnnimbjnaaaDoor
