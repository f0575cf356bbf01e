/- The walk of strconv.FormatUint in base sixteen. -/
import Derived.Test.YthfljcpfcnddhaaGreatDoorDx4
import Derived.Lib.LaidTab
import Derived.Lib.ItoaMem
namespace Go.Proofs.YthfljcpfcnddhaaGreatDoor
set_option linter.unusedVariables false
set_option linter.unusedSimpArgs false
open Go Go.RowKit Go.ChangeShapes

def deb64 : List Int := [0, 1, 56, 2, 57, 49, 28, 3, 61, 58, 42, 50, 38, 29, 17, 4, 62, 47, 59, 36, 45, 43, 51, 22, 53, 39, 33, 30, 24, 18, 12, 5, 63, 55, 48, 27, 60, 41, 37, 16, 46, 35, 44, 21, 52, 32, 23, 11, 54, 26, 40, 15, 34, 20, 31, 10, 25, 14, 19, 9, 13, 8, 7, 6]

set_option maxRecDepth 100000 in
set_option maxHeartbeats 4000000 in
theorem tz64_any (w : World) (ht : Lib.TabIs Tryz.prog w "math/bits.deBruijn64tab" .u8 deb64) :
    Calls Tryz.prog 165 #[.int .u64 16] w fun e w' => e = .returned (.int .i64 4) ∧ w' = w := by
  have hc : w.cell? ⟨16, 15, none⟩ = some (.int .u8 4) := ht.cell (g := 16) (by rfl) 15 (by decide)
  have hb : bits .and .u64 16 (IntKind.u64.wrap (-16)) = 16 := by decide +kernel
  have hw : IntKind.u64.wrap (16 * 285870213051353865) / 288230376151711744 = 15 := by decide +kernel
  go_enter Tryz.func165, Tryz.ntmps165
  go_wp2_with fail
  go_ret
  exact ⟨rfl, rfl⟩

set_option maxRecDepth 100000 in
set_option maxHeartbeats 4000000 in
theorem tz_any (w : World) (ht : Lib.TabIs Tryz.prog w "math/bits.deBruijn64tab" .u8 deb64) :
    Calls Tryz.prog 154 #[.int .u64 16] w fun e w' => e = .returned (.int .i64 4) ∧ w' = w := by
  go_enter Tryz.func154, Tryz.ntmps154
  go_wp2_with fail
  refine (tz64_any _ ht).mono ?_; rintro e w1 ⟨rfl, rfl⟩
  go_wp2_with fail
  go_ret
  exact ⟨rfl, rfl⟩

set_option maxRecDepth 100000 in
set_option maxHeartbeats 4000000 in
theorem pow2_any (w : World) : Calls Tryz.prog 153 #[.int .i64 16] w fun e w' => e = .returned (.bool true) ∧ w' = w := by
  have hb : bits .and .i64 16 15 = 0 := by decide
  go_enter Tryz.func153, Tryz.ntmps153
  go_wp2_with fail
  go_ret
  exact ⟨rfl, rfl⟩

def hexN (u : Nat) : List UInt8 := if h : u < 16 then [hexd u] else hexN (u / 16) ++ [hexd (u % 16)]
termination_by u
decreasing_by omega

theorem hexN_small {u : Nat} (h : u < 16) : hexN u = [hexd u] := by rw [hexN, dif_pos h]
theorem hexN_big {u : Nat} (h : ¬ u < 16) : hexN u = hexN (u / 16) ++ [hexd (u % 16)] := by
  conv => lhs; rw [hexN, dif_neg h]
theorem hexN_pos (u : Nat) : 1 ≤ (hexN u).length := by
  by_cases h : u < 16
  · rw [hexN_small h]; simp
  · rw [hexN_big h, List.length_append]; simp
theorem hexN_len : ∀ (k u : Nat), u < 16 ^ (k + 1) → (hexN u).length ≤ k + 1
  | 0, u, h => by rw [hexN_small (by omega)]; simp
  | k + 1, u, h => by
    by_cases h16 : u < 16
    · rw [hexN_small h16]; simp
    · rw [hexN_big h16, List.length_append]
      have := hexN_len k (u / 16) (by rw [Nat.pow_succ] at h; omega)
      simp only [List.length_cons, List.length_nil]; omega
theorem hexN_len16 {u : Nat} (h : u < 18446744073709551616) : (hexN u).length ≤ 16 := hexN_len 15 u (by have h2 : (16 : Nat) ^ (15 + 1) = 18446744073709551616 := by decide
                                                                                                        rw [h2]; exact h)
theorem hexget36 (i m : Nat) (h : i < (⟨#[48, 49, 50, 51, 52, 53, 54, 55, 56, 57, 97, 98, 99, 100, 101, 102, 103, 104, 105, 106, 107, 108, 109, 110, 111, 112, 113, 114, 115, 116, 117, 118, 119, 120, 121, 122]⟩ : ByteArray).size) (e : i = m) (hm : m < 16) : (⟨#[48, 49, 50, 51, 52, 53, 54, 55, 56, 57, 97, 98, 99, 100, 101, 102, 103, 104, 105, 106, 107, 108, 109, 110, 111, 112, 113, 114, 115, 116, 117, 118, 119, 120, 121, 122]⟩ : ByteArray)[i]'h = hexd m := by
  subst e
  have hn : i = 0 ∨ i = 1 ∨ i = 2 ∨ i = 3 ∨ i = 4 ∨ i = 5 ∨ i = 6 ∨ i = 7 ∨ i = 8 ∨ i = 9 ∨ i = 10 ∨ i = 11 ∨ i = 12 ∨ i = 13 ∨ i = 14 ∨ i = 15 := by omega
  rcases hn with rfl | rfl | rfl | rfl | rfl | rfl | rfl | rfl | rfl | rfl | rfl | rfl | rfl | rfl | rfl | rfl <;> rfl
theorem and64 (m : Nat) (h : m < 18446744073709551616) : bits .and .u64 (m : Int) 15 = ((m % 16 : Nat) : Int) := by
  have := u64_and_nat m 15 (by omega) (by omega)
  rw [show ((15 : Nat) : Int) = 15 from rfl] at this
  rw [this]
  congr 1
  exact Nat.and_two_pow_sub_one_eq_mod m 4

theorem heap_put {w : World} {b p : Nat} {cs : Array Value} {T : TypeId} (hb : w.heap[b]? = some (.cells cs T (0, 0))) (v : Value) :
    (w.setCell ⟨b, p, none⟩ v).heap[b]? = some (.cells (cs.setIfInBounds p v) T (0, 0)) := by
  simp [World.setCell, Array.getElem?_modify, hb]
theorem put_dig {D : List UInt8} {cs : Array Value} {p : Nat} (b : UInt8) (hs : p < cs.size) (h : ∀ j b, D[j]? = some b → cs[p + 1 + j]? = some (byteV b)) : ∀ j c, (b :: D)[j]? = some c → (cs.setIfInBounds p (byteV b))[p + j]? = some (byteV c) := by
  intro j c hj
  cases j with
  | zero =>
    obtain rfl : b = c := by simpa using hj
    rw [Nat.add_zero, Array.getElem?_setIfInBounds_self_of_lt hs]
  | succ j =>
    rw [Array.getElem?_setIfInBounds_ne (by omega), show p + (j + 1) = p + 1 + j by omega]
    exact h j c (by simpa using hj)

set_option maxRecDepth 100000 in
set_option maxHeartbeats 16000000 in
theorem fmtBits_any (U : Nat) (hU : U < 18446744073709551616) (w : World) (ht : Lib.TabIs Tryz.prog w "math/bits.deBruijn64tab" .u8 deb64) :
    Calls Tryz.prog 139 #[.slice none 0 0, .int .u64 U, .int .i64 16, .bool false, .bool false] w fun e w' => e = .returned (.tuple #[.slice none 0 0, .string ⟨(hexN U).toArray⟩]) ∧ Below w.heap.size w w' := by
  have hUl := hexN_len16 hU
  obtain ⟨R, hR⟩ : ∃ R, hexN U = R := ⟨_, rfl⟩
  rw [hR] at hUl ⊢
  have HR := Lib.hid hR
  clear hR
  go_enter Tryz.func139, Tryz.ntmps139
  go_wp2_with fail
  refine (pow2_any _).mono ?_; rintro e w1 ⟨rfl, rfl⟩
  go_wp2_with fail
  refine (tz_any _ (Lib.tabIs_alloc ht _)).mono ?_; rintro e w1 ⟨rfl, rfl⟩
  go_wp2_with fail
  have hb0 := rows1 (w := w) (A := .cells Tryz.zeroCells208 208) (Below.refl _ _)
  generalize (w.alloc (.cells Tryz.zeroCells208 208)) = w1 at *
  obtain ⟨rA, hbw, hz1w⟩ := hb0
  have hz65 : Tryz.zeroCells208.size = 65 := by decide +kernel
  generalize Tryz.zeroCells208 = z0 at *
  have RA := Lib.hid rA; have HW := Lib.hid hbw
  clear rA hbw hz1w ht
  go_loopw [1, 13] (fun u i wr => ∃ (V q : Nat) (D : List UInt8) (cs : Array Value), u = .int .u64 (V : Nat) ∧ i = .int .i64 (q : Nat) ∧ V < 18446744073709551616 ∧ q + D.length = 65 ∧ cs.size = 65 ∧ Hid (hexN V ++ D = R) ∧ Hid (wr.heap[w.heap.size]? = some (.cells cs 208 (0, 0))) ∧ Hid (∀ j b, D[j]? = some b → cs[q + j]? = some (byteV b)) ∧ Hid (Below w.heap.size w wr)) (fun u _ _ => (intOf u).toNat)
  case atStart => exact ⟨U, 65, [], z0, rfl, rfl, hU, rfl, hz65, by rw [List.append_nil]; exact HR.out, RA.out, by intro j b h; simp at h, HW.out⟩
  case round =>
    obtain ⟨V, q, D, cs, rfl, rfl, hV, hqD, hcs, HD, Rr, HC, HBr⟩ := hrel
    have hl := congrArg List.length HD.out
    rw [List.length_append] at hl
    have hp1 := hexN_pos V
    obtain ⟨p, rfl⟩ : ∃ p, q = p + 1 := ⟨q - 1, by omega⟩
    have hp65 : p < 65 := by omega
    have hpi : (p : Int) < 65 := by omega
    have cA : ∀ j, wr.cell? ⟨w.heap.size, j, none⟩ = cs[j]? := rowc Rr.out
    have hcell : wr.cell? ⟨w.heap.size, p, none⟩ = some cs[p] := by rw [cA p]; exact Array.getElem?_eq_getElem (by omega)
    have hfr : wr.frozen? ⟨w.heap.size, p, none⟩ = false := Lib.frozen_of_heap Rr.out p
    have hi2 : 0 ≤ (V : Int) % 16 ∧ (V : Int) % 16 < 36 := by omega
    have Rr2 := Lib.hid (fun (z : UInt8) => heap_put (p := p) Rr.out (.int .u8 (z.toNat : Int)))
    by_cases hlt : V < 16
    · have hi3 : 0 ≤ (V : Int) ∧ (V : Int) < 36 := by omega
      have hV16 : (V : Int) < 16 := by omega
      have hD := HD.out
      rw [hexN_small hlt] at hD
      have HD2 := Lib.hid (show hexd V :: D = R from hD)
      clear hD
      have hRl : R.length = 65 - p := by rw [← HD2.out, List.length_cons]; omega
      have hal : Tryz.prog.arrayLen 208 = 65 := by kernel_rfl
      have hsz1 : ∀ W : World, (sizeOf (Tryz.prog.elem 208)).run Tryz.prog W = .ok 1 W := by intro W; rfl
      have hsl : ∀ W : World, (Instr.sliceAt 208 (.pointer (some ⟨w.heap.size, 0, none⟩)) (some (.int .i64 (p : Int))) none none).run Tryz.prog W = .ok (.slice (some ⟨w.heap.size, p, none⟩) R.length R.length) W := by
        intro W
        rw [run_sliceAt_array_l W 208 ⟨w.heap.size, 0, none⟩ (by kernel_rfl) .i64 (p : Int) (by omega) (by rw [hal]; omega), hsz1, hal]
        show Result.ok (slicedAt ⟨w.heap.size, 0, none⟩ (p : Int).toNat 65 65 1) W = _
        unfold slicedAt
        rw [Int.toNat_natCast, if_neg (by omega), ← hRl, Addr.add_lit]
        simp
      have hx : ∀ (h : V < (⟨#[48, 49, 50, 51, 52, 53, 54, 55, 56, 57, 97, 98, 99, 100, 101, 102, 103, 104, 105, 106, 107, 108, 109, 110, 111, 112, 113, 114, 115, 116, 117, 118, 119, 120, 121, 122]⟩ : ByteArray).size), (⟨#[48, 49, 50, 51, 52, 53, 54, 55, 56, 57, 97, 98, 99, 100, 101, 102, 103, 104, 105, 106, 107, 108, 109, 110, 111, 112, 113, 114, 115, 116, 117, 118, 119, 120, 121, 122]⟩ : ByteArray)[V]'h = hexd V := fun h => hexget36 V V h rfl hlt
      have hcv : (convert 130 9 (.slice (some ⟨w.heap.size, p, none⟩) R.length R.length)).run Tryz.prog (wr.setCell ⟨w.heap.size, p, none⟩ (.int .u8 ((hexd V).toNat : Int))) = .ok (.string ⟨R.toArray⟩) (wr.setCell ⟨w.heap.size, p, none⟩ (.int .u8 ((hexd V).toNat : Int))) := by
        refine run_convert_bytes_back _ 130 9 5 _ _ R rfl rfl rfl fun j hj => ?_
        rw [Addr.add_lit, rowc (Rr2.out (hexd V)) (p + j)]
        have h := put_dig (hexd V) (by omega) HC.out j R[j] (by rw [HD2.out]; exact List.getElem?_eq_getElem hj)
        exact h
      rw [hRl] at hcv hsl
      have HW2 := Lib.hid (HBr.out.setCell (p := ⟨w.heap.size, p, none⟩) (Nat.le_refl _) (.int .u8 ((hexd V).toNat : Int)))
      go_wp2_with fail
      go_ret2
      exact ⟨rfl, HW2.out⟩
    · have hand := and64 V hV
      have hV16 : (16 : Int) ≤ (V : Int) := by omega
      have hD := HD.out
      rw [hexN_big hlt, List.append_assoc] at hD
      have HD2 := Lib.hid (show hexN (V / 16) ++ (hexd (V % 16) :: D) = R from hD)
      clear hD
      go_wp2_with fail
      go_roundw
      case rel => exact ⟨V / 16, p, hexd (V % 16) :: D, cs.setIfInBounds p (byteV (hexd (V % 16))), by go_num, rfl, by omega, by simp; omega, by simp [hcs], HD2.out,
        (congrArg (fun z : UInt8 => (wr.setCell ⟨w.heap.size, p, none⟩ (.int .u8 (z.toNat : Int))).heap[w.heap.size]?) (hexget36 _ (V % 16) _ rfl (by omega))).trans (Rr2.out _), put_dig _ (by omega) HC.out, HBr.out.setCell (Nat.le_refl _) _⟩
      case measure => simp [intOf]; omega

set_option maxRecDepth 100000 in
set_option maxHeartbeats 16000000 in
theorem iFormatUint_any (U : Nat) (hU : U < 18446744073709551616) (w : World) (ht : Lib.TabIs Tryz.prog w "math/bits.deBruijn64tab" .u8 deb64) :
    Calls Tryz.prog 117 #[.int .u64 U, .int .i64 16] w (TextRet (hexN U) w) := by
  go_enter Tryz.func117, Tryz.ntmps117
  go_wp2_with fail
  refine (fmtBits_any U hU _ ht).mono ?_; rintro e w1 ⟨rfl, hb⟩
  go_wp2_with fail
  go_ret
  exact ⟨rfl, hb⟩

set_option maxRecDepth 100000 in
set_option maxHeartbeats 16000000 in
theorem formatUint_any (U : Nat) (hU : U < 18446744073709551616) (w : World) (ht : Lib.TabIs Tryz.prog w "math/bits.deBruijn64tab" .u8 deb64) :
    Calls Tryz.prog 94 #[.int .u64 U, .int .i64 16] w (TextRet (hexN U) w) := by
  go_enter Tryz.func94, Tryz.ntmps94
  go_wp2_with fail
  refine (iFormatUint_any U hU _ ht).mono ?_; rintro e w1 ⟨rfl, hb⟩
  go_wp2_with fail
  go_ret
  exact ⟨rfl, hb⟩

/-- sixteen digits, out of the least -/
theorem hexU_hexN : ∀ (k u : Nat), u < 16 ^ (k + 1) → hexU (k + 1) u = List.replicate (k + 1 - (hexN u).length) 48 ++ hexN u
  | 0, u, h => by
    rw [hexN_small (by omega)]
    simp only [hexU, List.nil_append, List.length_cons, List.length_nil]
    rw [Nat.mod_eq_of_lt (by omega)]; rfl
  | k + 1, u, h => by
    rw [hexU]
    by_cases h16 : u < 16
    · have e0 : u / 16 = 0 := by omega
      rw [e0, hexU_hexN k 0 (Nat.pow_pos (by decide)), hexN_small (show (0 : Nat) < 16 by decide), hexN_small h16, Nat.mod_eq_of_lt h16]
      simp only [List.length_cons, List.length_nil]
      rw [show k + 1 + 1 - (0 + 1) = k + 1 - (0 + 1) + 1 by omega, List.replicate_succ']
      rfl
    · rw [hexU_hexN k (u / 16) (by rw [Nat.pow_succ] at h; omega), hexN_big h16, List.length_append]
      simp only [List.length_cons, List.length_nil, List.append_assoc]
      rw [show k + 1 + 1 - ((hexN (u / 16)).length + (0 + 1)) = k + 1 - (hexN (u / 16)).length by omega]
end Go.Proofs.YthfljcpfcnddhaaGreatDoor
