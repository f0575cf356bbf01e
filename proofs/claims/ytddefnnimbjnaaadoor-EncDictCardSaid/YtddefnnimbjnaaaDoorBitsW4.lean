/- The document's numbers in bits: the walks of Wide, bitsOf, PackOf; and of the statement's faulted, ints. -/
import Derived.Test.YtddefnnimbjnaaaDoorBitsW3
namespace Go.Proofs.YtddefnnimbjnaaaDoor
open Go Go.RowKit Go.ChangeShapes

theorem info_u64 : (Tryd.prog.info? 71).map (fun i => (i.zero, i.size, i.bytes)) = some (some (.int .u64 0), 1, 8) := by kernel_rfl
theorem info_int : (Tryd.prog.info? 3).map (fun i => (i.zero, i.size, i.bytes)) = some (some (.int .i64 0), 1, 8) := by kernel_rfl
def u64V (n : Int) : Value := .int .u64 n
def i64V (n : Int) : Value := .int .i64 n

set_option maxRecDepth 100000 in
set_option maxHeartbeats 1000000 in
theorem wide_any (v : Value) (l : List Int) (w : World) (hI : IsInts w v l) (h2 : l.length ≤ 20000) (hg : ∀ x ∈ l, 0 ≤ x ∧ x < 9223372036854775808) :
    Calls Tryd.prog 96 #[v] w fun e w' => (∃ u, e = .returned u ∧ w'.ownsRow w.heap.size 71 1 u l.length (l.map u64V)) ∧ Below w.heap.size w w' := by
  obtain ⟨ad, cap, rfl⟩ := hI.form
  obtain ⟨i0, hi, hz0, hz1, hz2⟩ := info_parts info_u64
  go_enter Tryd.func96, Tryd.ntmps96
  go_wp2
  go_loopw [3, 4] (fun u i wr => ∃ k : Nat, k ≤ l.length ∧ i = .int .i64 k ∧ wr.ownsRow w.heap.size 71 1 u (l.take k).length ((l.take k).map u64V) ∧ Below w.heap.size w wr) (fun _ i _ => l.length - (intOf i).toNat)
  case atStart => exact ⟨0, Nat.zero_le _, rfl, World.ownsRow_nil _ _ _ _, Below.refl _ _⟩
  case round =>
    obtain ⟨k, hk, rfl, hown, hb⟩ := hrel
    have hI1 := hI.below hb (Nat.le_refl _)
    have hlk : (l.take k).length = k := by simp; omega
    have Ho := Lib.hid hown; clear hown
    by_cases hlt : k < l.length
    · obtain ⟨b, off, rfl, _, _, hc⟩ := hI1.at (by omega)
      have hck := hc k l[k] (List.getElem?_eq_getElem hlt)
      obtain ⟨g1, g2⟩ := hg l[k] (List.getElem_mem hlt)
      have hn : l.take (k + 1) = l.take k ++ [l[k]] := List.take_succ_eq_append_getElem hlt
      generalize l[k] = x at *
      have hcv : IntKind.u64.wrap x = x := by rw [IntKind.wrap_u64]; omega
      have Hn := Lib.hid hn
      have Hlk := Lib.hid hlk
      have h63 : (l.take k).length + 1 ≤ maxLen := by rw [hlk]; unfold maxLen; omega
      have h64 : ((l.take k).length + 1) * 8 ≤ 140737488355328 := by rw [hlk]; omega
      clear hc hn hlk hg
      go_wp2_with (at_builtin; refine wpList_push rfl _ _ 70 rfl w.heap.size 71 i0 (.int .u64 0) 8 Tryd.underlying70 hi hz0 hz1 hz2 rfl u64V (fun _ => rfl) _ _ rfl Ho.out _ _ rfl h63 h64 hb.size x rfl ?_; intro v' w1 hown' hb' hnn; have Ho' := Lib.hid hown'; clear hown')
      go_roundw
      case rel => exact ⟨k + 1, by omega, by go_num, by rw [Hn.out]; exact Ho'.out, hb.trans hb'⟩
      case measure => simp [intOf]; omega
    · obtain rfl : k = l.length := by omega
      rw [List.take_length] at Ho
      go_wp2
      go_ret
      exact ⟨⟨_, rfl, Ho.out⟩, hb⟩

/-- Nat's as Int's -/
def ints (l : List Nat) : List Int := l.map fun (n : Nat) => (n : Int)
theorem ints_nats (l : List Int) (h : ∀ x ∈ l, 0 ≤ x) : ints (nats l) = l := by
  unfold ints nats
  rw [List.map_map]
  conv => rhs; rw [← List.map_id l]
  exact List.map_congr_left fun x hx => Int.toNat_of_nonneg (h x hx)

set_option maxRecDepth 100000 in
set_option maxHeartbeats 1000000 in
theorem bitsOf_any (v : Value) (l : List Nat) (wd : Nat) (w : World) (hI : IsNums .u64 w v (ints l)) (h1 : wd ≤ 32) (h2 : l.length ≤ 20000) (hg : ∀ n ∈ l, n < 18446744073709551616) :
    Calls Tryd.prog 89 #[v, .int .i64 (wd : Nat)] w fun e w' => (∃ u, e = .returned u ∧ w'.ownsRow w.heap.size 5 1 u (allBits wd l).length ((allBits wd l).map byteV)) ∧ Below w.heap.size w w' := by
  obtain ⟨ad, cap, rfl⟩ := hI.form
  have hlen : (ints l).length = l.length := by simp [ints]
  rw [hlen]
  rw [hlen] at hI
  have Hlen := Lib.hid hlen
  clear hlen
  obtain ⟨i0, hi, hz0, hz1, hz2⟩ := info_parts info_u8b
  go_enter Tryd.func89, Tryd.ntmps89
  go_wp2
  go_loopw [5, 6] (fun u i wr => ∃ k : Nat, k ≤ l.length ∧ i = .int .i64 k ∧ wr.ownsRow w.heap.size 5 1 u (allBits wd (l.take k)).length ((allBits wd (l.take k)).map byteV) ∧ Below w.heap.size w wr) (fun _ i _ => l.length - (intOf i).toNat)
  case atStart => exact ⟨0, Nat.zero_le _, rfl, World.ownsRow_nil _ _ _ _, Below.refl _ _⟩
  case round =>
    obtain ⟨k, hk, rfl, hown, hb⟩ := hrel
    have hI1 := hI.below hb (Nat.le_refl _)
    have Ho := Lib.hid hown; clear hown
    by_cases hlt : k < l.length
    · obtain ⟨b, off, rfl, hq, _, hc⟩ := hI1.at (by rw [Hlen.out]; omega)
      clear hq
      have hck := hc k l[k] (by simp [ints, List.getElem?_eq_getElem hlt])
      have g2 := hg l[k] (List.getElem_mem hlt)
      have hn : l.take (k + 1) = l.take k ++ [l[k]] := List.take_succ_eq_append_getElem hlt
      have hlb := allBits_len wd (l.take k)
      have hle : (l.take k).length * wd ≤ 20000 * 32 := Nat.mul_le_mul (by simp; omega) h1
      generalize l[k] = x at *
      have hsn := allBits_snoc wd x (l.take k)
      rw [← hn] at hsn
      have Hsn := Lib.hid hsn
      have hle2 : (allBits wd (l.take k)).length ≤ 640000 := by rw [hlb]; exact hle
      have Hle2 := Lib.hid hle2
      clear hc hn hg hsn hlb hle hle2
      go_wp2
      have hle2 := Hle2.out
      generalize allBits wd (l.take k) = L at *
      go_loopw [5, 7, 8] (fun u n j wr' => ∃ m : Nat, m ≤ wd ∧ j = .int .i64 m ∧ n = .int .u64 ((x / 2 ^ m : Nat) : Int) ∧ wr'.ownsRow w.heap.size 5 1 u (L ++ bitsL m x).length ((L ++ bitsL m x).map byteV) ∧ Below w.heap.size w wr') (fun _ _ j _ => wd - (intOf j).toNat)
      case atStart => exact ⟨0, Nat.zero_le _, rfl, by simp, by simpa [bitsL] using Ho.out, hb⟩
      case round =>
        obtain ⟨m, hm, rfl, rfl, hown, hb2⟩ := hrel
        have Ho2 := Lib.hid hown; clear hown
        by_cases hlt2 : m < wd
        · have hd : x / 2 ^ m / 2 = x / 2 ^ (m + 1) := by rw [Nat.div_div_eq_div_mul, Nat.pow_succ]
          have Hd := Lib.hid hd
          have hsn := Lib.hid (bitsL_snoc m x)
          have hll : (L ++ bitsL m x).length = L.length + m := by rw [List.length_append, bitsL_len]
          have h63 : (L ++ bitsL m x).length + 1 ≤ maxLen := by rw [hll]; unfold maxLen; omega
          have h64 : ((L ++ bitsL m x).length + 1) * 1 ≤ 140737488355328 := by rw [hll]; omega
          have hy : x / 2 ^ m < 18446744073709551616 := Nat.lt_of_le_of_lt (Nat.div_le_self _ _) g2
          clear hd hll
          generalize x / 2 ^ m = y at *
          go_wp2_with (at_builtin; refine wpList_push rfl _ _ 76 rfl w.heap.size 5 i0 (.int .u8 0) 1 Tryd.underlying76 hi hz0 hz1 hz2 rfl byteV byteV_one _ _ rfl Ho2.out _ _ rfl h63 h64 hb2.size (UInt8.ofNat (y % 2)) (byteV_ofNat (by go_num) (by omega)) ?_; intro v' w1 hown' hb' hnn; have Ho' := Lib.hid hown'; clear hown')
          go_roundw
          case rel => exact ⟨m + 1, by omega, by go_num, by rw [← Hd.out]; go_num, by rw [hsn.out, ← List.append_assoc]; exact Ho'.out, hb2.trans hb'⟩
          case measure => simp [intOf]; omega
        · obtain rfl : m = wd := by omega
          go_wp2
          go_roundw
          case rel => exact ⟨k + 1, by omega, by go_num, by rw [Hsn.out]; exact Ho2.out, hb2⟩
          case measure => simp [intOf]; omega
    · obtain rfl : k = l.length := by omega
      rw [List.take_length] at Ho
      go_wp2
      go_ret
      exact ⟨⟨_, rfl, Ho.out⟩, hb⟩
end Go.Proofs.YtddefnnimbjnaaaDoor
